/- The certificate that bytes are: the program's way and the document's come to the same. Plain numbers and lists. -/
import Derived.Test.YtamalmopbncibaaDoorPureGet
import Derived.Test.YtamalmopbncibaaDoorPureRight
namespace Go.Proofs.YtamalmopbncibaaDoor.Pure
open Go.RowKit Go.Proofs.YtamalmopbncibaaDoor.PK Go.Proofs.YtamalmopbncibaaDoorW.PrintWords Go.Proofs.YtamalmopbncibaaDoorW.PrintLast Go.Proofs.YtamalmopbncibaaDoorW.PrintMore
set_option linter.unusedVariables false

theorem wget_ok (s : ByteArray) (a : Nat) (h : (wget s a).2.2 = 0) : ∃ n b : Nat, wget s a = ((n : Int), (b : Int), 0) ∧ n < 18446744073709551616 ∧ a < b ∧ b ≤ s.size := by
  have hc := byt_lt s a
  unfold wget at h ⊢
  by_cases c1 : s.size < a
  · rw [if_pos c1] at h
    simp at h
  rw [if_neg c1] at h ⊢
  by_cases c2 : a = s.size
  · rw [if_pos c2] at h
    simp at h
  rw [if_neg c2] at h ⊢
  by_cases c3 : 199 < byt s a
  · rw [if_pos c3] at h
    simp at h
  rw [if_neg c3] at h ⊢
  by_cases c4 : byt s a < 192
  · rw [if_pos c4]
    exact ⟨byt s a, a + 1, by simp, by omega, by omega, by omega⟩
  rw [if_neg c4] at h ⊢
  by_cases c5 : s.size - a ≤ byt s a - 191
  · rw [if_pos c5] at h
    simp at h
  rw [if_neg c5] at h ⊢
  by_cases c6 : wval s (a + 1) (byt s a - 191) < 192 ∨ byt s (a + 1) = 0
  · rw [if_pos c6] at h
    simp at h
  rw [if_neg c6]
  exact ⟨wval s (a + 1) (byt s a - 191), a + 1 + (byt s a - 191), by simp, wval_lt64 s (a + 1) _ (by omega), by omega, by omega⟩

/-- So many tokens, from a place on: those that were read, where reading stopped, what is wrong. -/
def toks (s : ByteArray) : Nat → Nat → List S43 → List S43 × Nat × Int
  | 0, a, acc => (acc, a, 0)
  | c + 1, a, acc =>
    if (wget s a).2.2 = 0 then (if (wget s a).1 > 4294967296 then (acc, a, 3) else toks s c (wget s a).2.1.toNat (acc ++ [⟨(wget s a).1 % 6, (wget s a).1 / 6⟩])) else (acc, a, (wget s a).2.2)
theorem small_tok (n : Nat) (h : (n : Int) ≤ 4294967296) : (⟨wrap64 (Int.tmod (n : Int) 6), wrap64 (IntKind.u64.wrap (Int.tdiv (n : Int) 6))⟩ : S43) = ⟨(n : Int) % 6, (n : Int) / 6⟩ := by
  have e1 : Int.tmod (n : Int) 6 = (n : Int) % 6 := Int.tmod_eq_emod_of_nonneg (by omega)
  have e2 : Int.tdiv (n : Int) 6 = ((n / 6 : Nat) : Int) := by rw [Int.tdiv_eq_ediv_of_nonneg (by omega)]; omega
  have e3 : wrap64 ((n : Int) % 6) = (n : Int) % 6 := by unfold wrap64; omega
  have e4 : wrap64 ((n / 6 : Nat) : Int) = (n : Int) / 6 := by unfold wrap64; omega
  rw [e1, e2, u64_id (n / 6) (by omega), e3, e4]
theorem u64_succ (i : Nat) (h : i ≤ 1048576) : IntKind.u64.wrap ((i : Int) + 1) = ((i + 1 : Nat) : Int) := by
  rw [show (i : Int) + 1 = ((i + 1 : Nat) : Int) by omega, u64_id (i + 1) (by omega)]
theorem toks_eq (s : ByteArray) (hs : s.size ≤ 1099511627776) (many : Nat) (hm : many ≤ 1048576) : ∀ (c a i k : Nat) (acc : List S43), i + c = many → a ≤ s.size → acc.length ≤ a → c + 20 < k →
    pack_tokens.l0 k s (a : Int) acc 0 (many : Int) (i : Int) = some ((toks s c a acc).1, ((toks s c a acc).2.1 : Int), (toks s c a acc).2.2) := by
  intro c
  induction c with
  | zero =>
    intro a i k acc hi ha hl hk
    obtain ⟨k, rfl⟩ : ∃ m, k = m + 1 := ⟨k - 1, by omega⟩
    simp only [pack_tokens.l0]
    rw [if_neg (by omega)]
    rfl
  | succ c ih =>
    intro a i k acc hi ha hl hk
    obtain ⟨k, rfl⟩ : ∃ m, k = m + 1 := ⟨k - 1, by omega⟩
    simp only [pack_tokens.l0, toks]
    rw [if_pos (by omega), get_eq s a hs (by omega) k (by omega), Option.bind_some]
    by_cases c0 : (wget s a).2.2 = 0
    · rw [if_pos c0, if_pos c0]
      obtain ⟨n, b, hw, hn, hab, hb⟩ := wget_ok s a c0
      rw [hw]
      by_cases c1 : (n : Int) > 4294967296
      · rw [if_pos c1, if_pos c1]
      · rw [if_neg c1, if_neg c1, if_pos (by omega), small_tok n (by omega), u64_succ i (by omega)]
        exact ih b (i + 1) k _ (by omega) hb (by simp; omega) (by omega)
    · rw [if_neg c0, if_neg c0]
theorem conv_append (acc : List S43) (t : S43) : acc.map conv ++ [conv t] = (acc ++ [t]).map conv := by simp
/-- What is told of tokens that were read: none beside an error; else they must reach the end, and be right. -/
def told (s : ByteArray) (r : List S43 × Nat × Int) : List S43 × Int :=
  if r.2.2 = 0 then (if r.2.1 = s.size ∧ rightB r.1 = true then (r.1, 0) else ([], 3)) else ([], r.2.2)
theorem toks_ref (s : ByteArray) (hs : s.size ≤ 1099511627776) (many : Nat) (hm : many ≤ 1048576) : ∀ (c a i k : Nat) (acc : List S43), i + c = many → a ≤ s.size → acc.length ≤ a → acc.length ≤ i → 6 * 1048576 + 100 + c < k →
    clewref16_Decode.l0 k s (many : Int) (a : Int) (acc.map conv) (i : Int) = some ((told s (toks s c a acc)).1.map conv, (told s (toks s c a acc)).2) := by
  intro c
  induction c with
  | zero =>
    intro a i k acc hi ha hl hli hk
    obtain ⟨k, rfl⟩ : ∃ m, k = m + 1 := ⟨k - 1, by omega⟩
    simp only [clewref16_Decode.l0]
    rw [if_neg (by omega)]
    unfold told toks
    rw [if_pos rfl]
    by_cases c1 : a = s.size
    · rw [if_pos (by omega), right_ref_at acc k (by omega), Option.bind_some]
      by_cases c2 : rightB acc = true
      · rw [if_pos c2, if_pos ⟨c1, c2⟩]
      · rw [if_neg c2, if_neg (fun h => c2 h.2)]
        rfl
    · rw [if_neg (by omega), if_neg (fun h => c1 h.1)]
      rfl
  | succ c ih =>
    intro a i k acc hi ha hl hli hk
    obtain ⟨k, rfl⟩ : ∃ m, k = m + 1 := ⟨k - 1, by omega⟩
    simp only [clewref16_Decode.l0, toks]
    rw [if_pos (by omega), get_ref s a hs (by omega) k (by omega), Option.bind_some]
    by_cases c0 : (wget s a).2.2 = 0
    · rw [if_pos c0, if_pos c0]
      obtain ⟨n, b, hw, hn, hab, hb⟩ := wget_ok s a c0
      rw [hw]
      by_cases c1 : (n : Int) > 4294967296
      · rw [if_pos c1, if_pos c1]
        rfl
      · have ht := small_tok n (by omega)
        injection ht with t0 t1
        rw [if_neg c1, if_neg c1, if_pos (by simp; omega), u64_succ i (by omega), t0, t1]
        have := ih b (i + 1) k (acc ++ [⟨(n : Int) % 6, (n : Int) / 6⟩]) (by omega) hb (by simp; omega) (by simp; omega) (by omega)
        rw [← conv_append] at this
        exact this
    · rw [if_neg c0, if_neg c0]
      unfold told
      rw [if_neg c0]
      rfl
def clewB (x : ByteArray) : Bool := decide (4 ≤ x.size) && ((x.extract 0 4).toList == [67, 76, 69, 87])
/-- What Decode tells. -/
def decS (s : ByteArray) : List S43 × Int :=
  if (open24 s).2 = 0 then
    (if clewB (open24 s).1 = true then
      (if (wget (open24 s).1 4).2.2 = 0 then (if (wget (open24 s).1 4).1 > 1048576 then ([], 4) else told (open24 s).1 (toks (open24 s).1 (wget (open24 s).1 4).1.toNat (wget (open24 s).1 4).2.1.toNat [])) else ([], (wget (open24 s).1 4).2.2))
    else ([], 3))
  else ([], (open24 s).2)
theorem open_size (s : ByteArray) : (open24 s).1.size ≤ s.size := by
  unfold open24
  by_cases c : s.size < 3
  · rw [if_pos c]
    show 0 ≤ _
    omega
  · rw [if_neg c]
    by_cases c2 : (seal24 (s.extract 0 (s.size - 3))).toList = s.toList
    · rw [if_pos c2]
      simp only [ByteArray.size_extract]
      omega
    · rw [if_neg c2]
      show 0 ≤ _
      omega
theorem prefix_eq (x : ByteArray) : strings_HasPrefix.f x ⟨#[67, 76, 69, 87]⟩ = some (clewB x) := by
  unfold strings_HasPrefix.f stringslite_HasPrefix.f clewB
  have h4 : ((⟨#[67, 76, 69, 87]⟩ : ByteArray).size : Int) = 4 := rfl
  rw [h4]
  by_cases c : (x.size : Int) ≥ 4
  · rw [if_pos c, if_pos (by omega), if_pos (by omega), Option.bind_some]
    have : decide (4 ≤ x.size) = true := by simp; omega
    rw [this, ByteArray.toList_eq ⟨#[67, 76, 69, 87]⟩]
    rfl
  · rw [if_neg c, Option.bind_some]
    have : decide (4 ≤ x.size) = false := by simp; omega
    rw [this]
    rfl
theorem toks_place (s : ByteArray) : ∀ (c a : Nat) (acc : List S43), a ≤ s.size → (toks s c a acc).2.1 ≤ s.size ∧ (toks s c a acc).1.length ≤ acc.length + c := by
  intro c
  induction c with
  | zero => exact fun a acc h => ⟨h, Nat.le_refl _⟩
  | succ c ih =>
    intro a acc h
    unfold toks
    by_cases c0 : (wget s a).2.2 = 0
    · rw [if_pos c0]
      obtain ⟨n, b, hw, hn, hab, hb⟩ := wget_ok s a c0
      rw [hw]
      by_cases c1 : (n : Int) > 4294967296
      · rw [if_pos c1]
        exact ⟨h, by simp⟩
      · rw [if_neg c1]
        have := ih b (acc ++ [⟨(n : Int) % 6, (n : Int) / 6⟩]) hb
        refine ⟨this.1, ?_⟩
        have h2 := this.2
        rw [List.length_append, List.length_singleton] at h2
        simp only [Int.toNat_natCast]
        omega
    · rw [if_neg c0]
      exact ⟨h, by simp⟩
theorem dec_j0 (k : Nat) (e : Int) (l : List S43) (b : Bool) : pack_Decode.j0 (k + 1) e l b = if b = true then some ([], 3) else if e = 0 then some (l, 0) else some ([], e) := by
  simp only [pack_Decode.j0]
theorem dec_eq (s : ByteArray) (hs : s.size ≤ 1099511627776) (k : Nat) (hk : 10 * 1048576 ≤ k) : pack_Decode.f k s = some (decS s) := by
  have hx := open_size s
  unfold pack_Decode.f decS
  rw [open_eq s (by omega), Option.bind_some]
  by_cases c0 : (open24 s).2 = 0
  · rw [if_pos c0, if_pos c0, prefix_eq, Option.bind_some]
    generalize (open24 s).1 = x at hx ⊢
    by_cases c1 : clewB x = true
    · rw [if_pos c1, if_pos c1, show (4 : Int) = ((4 : Nat) : Int) from rfl, get_eq x 4 (by omega) (by omega) k (by omega), Option.bind_some]
      by_cases c2 : (wget x 4).2.2 = 0
      · rw [if_pos c2, if_pos c2]
        obtain ⟨n, b, hw, hn, hab, hb⟩ := wget_ok x 4 c2
        rw [hw]
        by_cases c3 : (n : Int) > 1048576
        · rw [if_pos c3, if_pos c3]
        · rw [if_neg c3, if_neg c3]
          unfold pack_tokens.f
          obtain ⟨k, rfl⟩ : ∃ m, k = m + 1 := ⟨k - 1, by omega⟩
          have ht := toks_eq x (by omega) n (by omega) n b 0 (k + 1) [] (by omega) hb (by simp) (by omega)
          rw [show ((0 : Nat) : Int) = 0 from rfl] at ht
          rw [ht, Option.bind_some]
          simp only [Int.toNat_natCast]
          have hp := toks_place x n b [] hb
          generalize toks x n b [] = r at hp ⊢
          obtain ⟨hp1, hp2⟩ := hp
          unfold told
          by_cases c4 : r.2.2 = 0
          · rw [if_pos c4, if_pos c4]
            by_cases c5 : r.2.1 = x.size
            · rw [if_neg (by omega), right_at r.1 (k + 1) (by simp at hp2; omega), Option.bind_some, dec_j0]
              by_cases c6 : rightB r.1 = true
              · rw [if_neg (by simp [c6]), if_pos c4, if_pos ⟨c5, c6⟩]
              · rw [if_pos (by simpa using c6), if_neg (fun h => c6 h.2)]
            · rw [if_pos (by omega), dec_j0, if_pos rfl, if_neg (fun h => c5 h.1)]
          · rw [if_neg c4, if_neg c4, dec_j0, if_neg (by simp), if_neg c4]
      · rw [if_neg c2, if_neg c2]
    · rw [if_neg c1, if_neg c1]
  · rw [if_neg c0, if_neg c0]
theorem dec_ref (s : ByteArray) (hs : s.size ≤ 1099511627776) : Ev (fun k => clewref16_Decode.f k s) ((decS s).1.map conv, (decS s).2) := by
  have hx := open_size s
  unfold clewref16_Decode.f decS
  refine Ev.bind (open_ref s (by omega)) ?_
  refine ⟨10 * 1048576, fun k hk => ?_⟩
  simp only
  by_cases c0 : (open24 s).2 = 0
  · rw [if_pos c0, if_pos c0]
    generalize (open24 s).1 = x at hx ⊢
    obtain ⟨k, rfl⟩ : ∃ m, k = m + 1 := ⟨k - 1, by omega⟩
    have hj : ∀ b : Bool, clewref16_Decode.j0 (k + 1) x b = if b = true then some ([], 3) else
        (if (wget x 4).2.2 = 0 then (if (wget x 4).1 > 1048576 then some ([], 4) else some ((told x (toks x (wget x 4).1.toNat (wget x 4).2.1.toNat [])).1.map conv, (told x (toks x (wget x 4).1.toNat (wget x 4).2.1.toNat [])).2)) else some ([], (wget x 4).2.2)) := by
      intro b
      simp only [clewref16_Decode.j0]
      by_cases cb : b = true
      · rw [if_pos cb, if_pos cb]
      · rw [if_neg cb, if_neg cb, show (4 : Int) = ((4 : Nat) : Int) from rfl, get_ref x 4 (by omega) (by omega) k (by omega), Option.bind_some]
        by_cases c2 : (wget x 4).2.2 = 0
        · rw [if_pos c2, if_pos c2]
          obtain ⟨n, b, hw, hn, hab, hb⟩ := wget_ok x 4 c2
          rw [hw]
          by_cases c3 : (n : Int) > 1048576
          · rw [if_pos c3, if_pos c3]
          · rw [if_neg c3, if_neg c3]
            simp only [Int.toNat_natCast]
            have := toks_ref x (by omega) n (by omega) n b 0 k [] (by omega) hb (by simp) (by simp) (by omega)
            exact this
        · rw [if_neg c2, if_neg c2]
    unfold clewB
    by_cases c4 : (x.size : Int) < 4
    · have h4 : decide (4 ≤ x.size) = false := by simp; omega
      rw [if_pos c4, hj, if_pos rfl, h4]
      rfl
    · have h4 : decide (4 ≤ x.size) = true := by simp; omega
      rw [if_neg c4, if_pos (by omega), hj, h4]
      by_cases c5 : (x.extract 0 4).toList = [67, 76, 69, 87]
      · have hcl : ((x.extract 0 4).toList != [67, 76, 69, 87]) = false := by simp [c5]
        have hcb : (true && (x.extract 0 4).toList == [67, 76, 69, 87]) = true := by simp [c5]
        rw [hcl, hcb, if_neg (by simp : ¬ (false = true)), if_pos rfl]
        by_cases c2 : (wget x 4).2.2 = 0
        · rw [if_pos c2, if_pos c2]
          by_cases c3 : (wget x 4).1 > 1048576
          · rw [if_pos c3, if_pos c3]
            rfl
          · rw [if_neg c3, if_neg c3]
        · rw [if_neg c2, if_neg c2]
          rfl
      · have hcl : ((x.extract 0 4).toList != [67, 76, 69, 87]) = true := by simp [c5]
        have hcb : (true && (x.extract 0 4).toList == [67, 76, 69, 87]) = false := by simp [c5]
        rw [hcl, hcb, if_pos rfl]
        rfl
  · rw [if_neg c0, if_neg c0]
    rfl
end Go.Proofs.YtamalmopbncibaaDoor.Pure
