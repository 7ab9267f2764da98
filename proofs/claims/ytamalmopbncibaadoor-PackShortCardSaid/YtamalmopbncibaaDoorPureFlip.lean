/- One byte changed changes the sum; what is cut off is no certificate. Plain numbers and lists. -/
import Derived.Test.YtamalmopbncibaaDoorPureDecNil
import Derived.Test.YtamalmopbncibaaDoorHShort
namespace Go.Proofs.YtamalmopbncibaaDoor.Pure
open Go.RowKit Go.Proofs.YtamalmopbncibaaDoor.PK Go.Proofs.YtamalmopbncibaaDoorW.PrintWords Go.Proofs.YtamalmopbncibaaDoorW.PrintLast Go.Proofs.YtamalmopbncibaaDoorW.PrintMore
set_option linter.unusedVariables false
theorem xor_cancel {a b c : Nat} (h : a ^^^ b = a ^^^ c) : b = c := by
  have := congrArg (fun x => a ^^^ x) h
  simp only [← Nat.xor_assoc, Nat.xor_self, Nat.zero_xor] at this
  exact this
theorem xor_cancel_r {a b c : Nat} (h : b ^^^ a = c ^^^ a) : b = c := by
  rw [Nat.xor_comm b a, Nat.xor_comm c a] at h
  exact xor_cancel h
theorem odd_xor (n : Nat) : ((2 * n) ^^^ 25578747) % 2 = 1 := by
  have h := Nat.xor_mod_two_pow (a := 2 * n) (b := 25578747) (n := 1)
  rw [show (2 : Nat) ^ 1 = 2 from rfl, show 2 * n % 2 = 0 by omega, Nat.zero_xor] at h
  exact h
theorem s1_inj {a b : Nat} (h : s1 a = s1 b) : a = b := by
  have ha := odd_xor a
  have hb := odd_xor b
  unfold s1 at h
  by_cases ca : 16777216 ≤ 2 * a
  · rw [if_pos ca] at h
    by_cases cb : 16777216 ≤ 2 * b
    · rw [if_pos cb] at h
      have := xor_cancel_r h
      omega
    · rw [if_neg cb] at h
      omega
  · rw [if_neg ca] at h
    by_cases cb : 16777216 ≤ 2 * b
    · rw [if_pos cb] at h
      omega
    · rw [if_neg cb] at h
      omega
theorem s4_inj {a b : Nat} (h : s4 a = s4 b) : a = b := s1_inj (s1_inj (s1_inj (s1_inj h)))
theorem nstep_inj {a b c : Nat} (h : nstep a c = nstep b c) : a = b := xor_cancel_r (s4_inj (s4_inj h))
theorem nstep_inj_byte {a c d : Nat} (h : nstep a c = nstep a d) : c = d := by
  have := xor_cancel (s4_inj (s4_inj h))
  omega
theorem nfold_inj (l : List UInt8) : ∀ a b : Nat, nfold a l = nfold b l → a = b := by
  induction l with
  | nil =>
    intro a b h
    unfold nfold at h
    exact h
  | cons c l ih =>
    intro a b h
    rw [nfold_cons, nfold_cons] at h
    have h2 := ih (nstep a c.toNat) (nstep b c.toNat) h
    exact nstep_inj (c := c.toNat) h2
theorem list_same : ∀ (l m : List UInt8), l.length = m.length → (∀ j, l.getD j 0 = m.getD j 0) → l = m
  | [], [], _, _ => rfl
  | [], _ :: _, h, _ => by simp at h
  | _ :: _, [], h, _ => by simp at h
  | c :: l, d :: m, h, hj => by
    have h0 := hj 0
    simp only [List.getD_cons_zero] at h0
    rw [h0, list_same l m (by simpa using h) (fun j => by simpa using hj (j + 1))]
theorem nfold_diff : ∀ (l m : List UInt8) (i n : Nat), l.length = m.length → (∀ j, j ≠ i → l.getD j 0 = m.getD j 0) → l.getD i 0 ≠ m.getD i 0 → nfold n l ≠ nfold n m
  | [], [], i, n, _, _, hi => by simp at hi
  | [], _ :: _, _, _, h, _, _ => by simp at h
  | _ :: _, [], _, _, h, _, _ => by simp at h
  | c :: l, d :: m, 0, n, h, hj, hi => by
    have e : l = m := list_same l m (by simpa using h) (fun j => by simpa using hj (j + 1) (by omega))
    subst e
    intro h2
    rw [nfold_cons, nfold_cons] at h2
    have := nstep_inj_byte (nfold_inj l _ _ h2)
    exact hi (by simpa using UInt8.toNat_inj.1 this)
  | c :: l, d :: m, i + 1, n, h, hj, hi => by
    have h0 := hj 0 (by omega)
    simp only [List.getD_cons_zero] at h0
    subst h0
    rw [nfold_cons, nfold_cons]
    exact nfold_diff l m i _ (by simpa using h) (fun j hne => by simpa using hj (j + 1) (by omega)) (by simpa using hi)
theorem byt_inj {s t : ByteArray} {i j : Nat} : byt s i = byt t j ↔ s.data.toList.getD i 0 = t.data.toList.getD j 0 := UInt8.toNat_inj
theorem sum_diff {s t : ByteArray} (i : Nat) (h : s.size = t.size) (hj : ∀ j, j ≠ i → byt s j = byt t j) (hi : byt s i ≠ byt t i) : sum24 s ≠ sum24 t :=
  nfold_diff _ _ i _ (by rw [data_length, data_length, h]) (fun j hne => byt_inj.1 (hj j hne)) (fun e => hi (byt_inj.2 e))
theorem three_inj {x y : ByteArray} (h : three x = three y) : sum24 x = sum24 y := by
  have hx := sum24_lt x
  have hy := sum24_lt y
  have h2 := congrArg bytesOf h
  unfold three at h2
  rw [bytesOf_strOfNums _ (by intro z hz; simp at hz; omega), bytesOf_strOfNums _ (by intro z hz; simp at hz; omega)] at h2
  simp only [List.cons.injEq] at h2
  omega
/-! ## The changed text -/
theorem flip_v (b : Nat) (hb : b < 256) (a2 : Int) (h0 : 0 ≤ a2) (h1 : a2 < 256) : ∃ v : Nat, Go.bits BinOp.xor IntKind.u8 (b : Int) ((1 + a2.tmod 255) % 256) = (v : Int) ∧ v < 256 ∧ v ≠ b := by
  obtain ⟨n, rfl⟩ := Int.eq_ofNat_of_zero_le h0
  have e : (1 + (n : Int).tmod 255) % 256 = ((1 + n % 255 : Nat) : Int) := by
    rw [Int.tmod_eq_emod_of_nonneg (by omega)]
    omega
  rw [e, u8_xor_nat b (1 + n % 255) hb (by omega)]
  refine ⟨b ^^^ (1 + n % 255), rfl, Nat.xor_lt_two_pow (n := 8) hb (by omega), fun h => ?_⟩
  have h2 : b ^^^ (1 + n % 255) = b ^^^ 0 := by rw [h, Nat.xor_zero]
  have := xor_cancel h2
  omega
theorem flip_at (s : ByteArray) (i : Nat) (hi : i < s.size) (a2 : Int) (h0 : 0 ≤ a2) (h1 : a2 < 256) :
    (flipS s i a2).size = s.size ∧ (∀ j, j ≠ i → byt (flipS s i a2) j = byt s j) ∧ byt (flipS s i a2) i ≠ byt s i := by
  have hl := flip_length s i a2
  have hz : (flipS s i a2).size = s.size := by unfold flipS; rw [strOfNums_size, hl]
  have hbi := bytesOf_get s i hi
  obtain ⟨v, hv, hv1, hv2⟩ := flip_v (byt s i) (byt_lt s i) a2 h0 h1
  have hlist : flipL s i a2 = (bytesOf s).set i (v : Int) := by
    unfold flipL
    rw [hbi]
    exact congrArg _ hv
  have hr : ∀ x ∈ (bytesOf s).set i (v : Int), 0 ≤ x ∧ x < 256 := by
    intro x hx
    rcases List.mem_or_eq_of_mem_set hx with h | h
    · unfold bytesOf at h
      obtain ⟨b, _, rfl⟩ := List.mem_map.1 h
      have := b.toNat_lt
      omega
    · omega
  have hget : ∀ j, j < s.size → ((bytesOf s).set i (v : Int))[j]? = some (byt (flipS s i a2) j : Int) := by
    intro j hj
    have := bytesOf_get (flipS s i a2) j (by omega)
    unfold flipS at this ⊢
    rw [hlist] at this ⊢
    rw [bytesOf_strOfNums _ hr] at this
    exact this
  have hbl : (bytesOf s).length = s.size := bytesOf_length s
  refine ⟨hz, fun j hne => ?_, ?_⟩
  · rcases Nat.lt_or_ge j s.size with c | c
    · have h2 := hget j c
      rw [List.getElem?_set_ne (by omega), bytesOf_get s j c] at h2
      simp only [Option.some.injEq] at h2
      omega
    · unfold byt
      rw [List.getD_eq_getElem?_getD, List.getD_eq_getElem?_getD, List.getElem?_eq_none (by rw [data_length]; omega), List.getElem?_eq_none (by rw [data_length]; omega)]
  · have h2 := hget i hi
    rw [List.getElem?_set_self (by omega)] at h2
    simp only [Option.some.injEq] at h2
    omega
theorem open_bad {s : ByteArray} (h3 : ¬ s.size < 3) (h : seal24 (s.extract 0 (s.size - 3)) ≠ s) : (open24 s).2 = 8 ∧ (open24 s).2 ≠ 0 := by
  unfold open24
  rw [if_neg h3, if_neg (by rw [toList_inj]; exact h)]
  decide
theorem dec_flip (x : ByteArray) (i : Nat) (hi : i < (seal24 x).size) (a2 : Int) (h0 : 0 ≤ a2) (h1 : a2 < 256) : decS (flipS (seal24 x) i a2) = ([], 8) := by
  obtain ⟨hz, hne, hv⟩ := flip_at (seal24 x) i hi a2 h0 h1
  have hs := seal_size x
  generalize flipS (seal24 x) i a2 = t at *
  have hcz : (t.extract 0 (t.size - 3)).size = x.size := by rw [ByteArray.size_extract]; omega
  have hbad : seal24 (t.extract 0 (t.size - 3)) ≠ t := by
    intro e
    have hct : ∀ j, j < x.size → byt (t.extract 0 (t.size - 3)) j = byt t j := fun j hj => by rw [byt_cut _ _ _ _ (by omega) (by omega), Nat.zero_add]
    have hsx : ∀ j, j < x.size → byt (seal24 x) j = byt x j := fun j hj => byt_append_l _ _ _ hj
    by_cases c : i < x.size
    · have hd : sum24 (t.extract 0 (t.size - 3)) ≠ sum24 x := by
        refine sum_diff i hcz (fun j hji => ?_) ?_
        · rcases Nat.lt_or_ge j x.size with cj | cj
          · rw [hct j cj, hne j hji, hsx j cj]
          · unfold byt
            rw [List.getD_eq_getElem?_getD, List.getD_eq_getElem?_getD, List.getElem?_eq_none (by rw [data_length]; omega), List.getElem?_eq_none (by rw [data_length]; omega)]
        · rw [hct i c, ← hsx i c]
          exact hv
      refine hd (three_inj (ext_byt _ _ (by rw [three_size, three_size]) fun j hj => ?_))
      rw [three_size] at hj
      have e1 := byt_append_r (t.extract 0 (t.size - 3)) (three (t.extract 0 (t.size - 3))) j
      have e2 := byt_append_r x (three x) j
      rw [← e1, ← e2, hcz]
      show byt (seal24 (t.extract 0 (t.size - 3))) (x.size + j) = byt (seal24 x) (x.size + j)
      rw [e]
      exact hne _ (by omega)
    · have hx : t.extract 0 (t.size - 3) = x := by
        refine ext_byt _ _ hcz fun j hj => ?_
        rw [hcz] at hj
        rw [hct j hj, hne j (by omega), hsx j hj]
      rw [hx] at e
      rw [← e] at hv
      exact hv rfl
  obtain ⟨h8, hn⟩ := open_bad (by omega) hbad
  unfold decS
  rw [if_neg hn, h8]
/-! ## What is cut off -/
theorem no_prefix {y z : List S43} (hy : rightB y = true) (hz : rightB z = true) (m : Nat) (hm : m < (body y).size) (h : body z = (encS y).extract 0 m) : False := by
  have hs := seal_size (body y)
  rw [enc_body hy] at h
  have hp : (seal24 (body y)).extract 0 m = (body y).extract 0 m := by
    refine ext_byt _ _ (by rw [ByteArray.size_extract, ByteArray.size_extract]; omega) fun j hj => ?_
    rw [ByteArray.size_extract] at hj
    rw [byt_cut _ _ _ _ (by omega) (by omega), byt_cut _ _ _ _ (by omega) (by omega), Nat.zero_add]
    exact byt_append_l _ _ _ (by omega)
  rw [hp] at h
  have hq : body y = body z ++ (body y).extract m (body y).size := by rw [h, cut_append _ _ _ _ (by omega) (by omega) (Nat.le_refl _), cut_all]
  have h1 := body_prefix hy hz _ hq
  have h2 := congrArg ByteArray.size h
  rw [ByteArray.size_extract] at h2
  omega
theorem dec_cut {y : List S43} (hy : rightB y = true) (i : Nat) (hi : i < (encS y).size) : (decS ((encS y).extract 0 i)).2 ≠ 0 := by
  intro e
  obtain ⟨h1, h2⟩ := enc_dec (s := (encS y).extract 0 i) (y := (decS ((encS y).extract 0 i)).1) (by rw [← e])
  generalize (decS ((encS y).extract 0 i)).1 = z at h1 h2
  have hs := seal_size (body y)
  have hz := seal_size (body z)
  rw [enc_body h1] at h2
  have hsz := congrArg ByteArray.size h2
  rw [ByteArray.size_extract] at hsz
  rw [enc_body hy] at hi hsz
  refine no_prefix hy h1 (i - 3) (by omega) ?_
  rw [← cut_left (body z) (three (body z))]
  show (seal24 (body z)).extract 0 _ = _
  rw [h2]
  have hl : (encS y).size = (body y).size + 3 := by rw [enc_body hy, hs]
  refine ext_byt _ _ (by rw [ByteArray.size_extract, ByteArray.size_extract, ByteArray.size_extract]; omega) fun j hj => ?_
  rw [ByteArray.size_extract, ByteArray.size_extract] at hj
  rw [byt_cut _ _ _ _ (by omega) (by rw [ByteArray.size_extract]; omega), byt_cut _ _ _ _ (by omega) (by omega), byt_cut _ _ _ _ (by omega) (by omega), Nat.zero_add]
theorem dec_cut_seal {y : List S43} (hy : rightB y = true) (m : Nat) (hm : m < (body y).size) : (decS (seal24 ((encS y).extract 0 m))).2 ≠ 0 := by
  intro e
  obtain ⟨h1, h2⟩ := enc_dec (s := seal24 ((encS y).extract 0 m)) (y := (decS (seal24 ((encS y).extract 0 m))).1) (by rw [← e])
  generalize (decS (seal24 ((encS y).extract 0 m))).1 = z at h1 h2
  rw [enc_body h1] at h2
  have h3 := congrArg open24 h2
  rw [open_seal, open_seal] at h3
  exact no_prefix hy h1 m hm (Prod.mk.inj h3).1
end Go.Proofs.YtamalmopbncibaaDoor.Pure
