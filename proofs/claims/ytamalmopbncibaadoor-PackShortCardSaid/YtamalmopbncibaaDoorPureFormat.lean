/- The format: what is encoded is decoded as it was; what is decoded has just these bytes; no certificate's bytes begin another one's. Plain numbers and lists. -/
import Derived.Test.YtamalmopbncibaaDoorPureEncode
namespace Go.Proofs.YtamalmopbncibaaDoor.Pure
open Go.RowKit Go.Proofs.YtamalmopbncibaaDoor.PK Go.Proofs.YtamalmopbncibaaDoorW.PrintWords Go.Proofs.YtamalmopbncibaaDoorW.PrintLast Go.Proofs.YtamalmopbncibaaDoorW.PrintMore
set_option linter.unusedVariables false

theorem bytesOf_get (s : ByteArray) (i : Nat) (h : i < s.size) : (bytesOf s)[i]? = some (byt s i : Int) := by
  have hl : i < s.data.toList.length := by rw [data_length]; exact h
  unfold bytesOf byt
  rw [List.getElem?_map, List.getElem?_eq_getElem hl, List.getD_eq_getElem?_getD, List.getElem?_eq_getElem hl]
  rfl
theorem ext_byt (a b : ByteArray) (h : a.size = b.size) (hb : ∀ i, i < a.size → byt a i = byt b i) : a = b := by
  rw [← strOfNums_bytesOf a, ← strOfNums_bytesOf b]
  congr 1
  apply List.ext_getElem?
  intro i
  rcases Nat.lt_or_ge i a.size with c | c
  · rw [bytesOf_get a i c, bytesOf_get b i (by omega), hb i c]
  · rw [List.getElem?_eq_none (by rw [bytesOf_length]; exact c), List.getElem?_eq_none (by rw [bytesOf_length]; omega)]
theorem byt_append_l (a b : ByteArray) (i : Nat) (h : i < a.size) : byt (a ++ b) i = byt a i := by
  have hl : i < a.data.toList.length := by rw [data_length]; exact h
  unfold byt
  rw [ByteArray.data_append, Array.toList_append, List.getD_eq_getElem?_getD, List.getD_eq_getElem?_getD, List.getElem?_append_left hl]
theorem byt_append_r (a b : ByteArray) (i : Nat) : byt (a ++ b) (a.size + i) = byt b i := by
  unfold byt
  rw [ByteArray.data_append, Array.toList_append, List.getD_eq_getElem?_getD, List.getD_eq_getElem?_getD, List.getElem?_append_right (by rw [data_length]; omega), data_length, show a.size + i - a.size = i by omega]
theorem byt_cut (s : ByteArray) (a e i : Nat) (h : a + i < e) (he : e ≤ s.size) : byt (s.extract a e) i = byt s (a + i) := by
  have h1 := bytesOf_get (s.extract a e) i (by rw [ByteArray.size_extract]; omega)
  rw [bytesOf_extract s a e (by omega) he, List.getElem?_map, List.getElem?_range (by omega)] at h1
  simp only [Option.map_some, Option.some.injEq] at h1
  omega
theorem cut_append (s : ByteArray) (a b c : Nat) (h1 : a ≤ b) (h2 : b ≤ c) (h3 : c ≤ s.size) : s.extract a b ++ s.extract b c = s.extract a c := by
  apply ext_byt
  · rw [ByteArray.size_append, ByteArray.size_extract, ByteArray.size_extract, ByteArray.size_extract]
    omega
  · intro i hi
    rw [ByteArray.size_append, ByteArray.size_extract, ByteArray.size_extract] at hi
    rcases Nat.lt_or_ge i (b - a) with c1 | c1
    · rw [byt_append_l _ _ _ (by rw [ByteArray.size_extract]; omega), byt_cut _ _ _ _ (by omega) (by omega), byt_cut _ _ _ _ (by omega) h3]
    · have hz : (s.extract a b).size = b - a := by rw [ByteArray.size_extract]; omega
      have := byt_append_r (s.extract a b) (s.extract b c) (i - (b - a))
      rw [hz, show b - a + (i - (b - a)) = i by omega] at this
      rw [this, byt_cut _ _ _ _ (by omega) h3, byt_cut _ _ _ _ (by omega) h3]
      congr 1
      omega
theorem cut_all (s : ByteArray) : s.extract 0 s.size = s := by
  apply ext_byt
  · rw [ByteArray.size_extract]; omega
  · intro i hi
    rw [ByteArray.size_extract] at hi
    rw [byt_cut _ _ _ _ (by omega) (Nat.le_refl _), Nat.zero_add]
theorem cut_left (a b : ByteArray) : (a ++ b).extract 0 a.size = a := by
  apply ext_byt
  · rw [ByteArray.size_extract, ByteArray.size_append]; omega
  · intro i hi
    rw [ByteArray.size_extract, ByteArray.size_append] at hi
    rw [byt_cut _ _ _ _ (by omega) (by rw [ByteArray.size_append]; omega), Nat.zero_add, byt_append_l _ _ _ (by omega)]
theorem append_inj_r (a b b' : ByteArray) (h : a ++ b = a ++ b') : b = b' := by
  have hz := congrArg ByteArray.size h
  rw [ByteArray.size_append, ByteArray.size_append] at hz
  apply ext_byt _ _ (by omega)
  intro i hi
  rw [← byt_append_r a b i, h, byt_append_r]
theorem append_assoc' (a b c : ByteArray) : a ++ b ++ c = a ++ (b ++ c) := ByteArray.append_assoc
theorem wval_ext (s t : ByteArray) (a b : Nat) : ∀ m, (∀ j, j < m → byt s (a + j) = byt t (b + j)) → wval s a m = wval t b m
  | 0, _ => rfl
  | m + 1, h => by
    rw [wval, wval, wval_ext s t a b m (fun j hj => h j (by omega)), h m (by omega)]
/-! ## Get at bytes that go on behind -/
theorem wget_ext (p q : ByteArray) (a n b : Nat) (h : wget p a = ((n : Int), (b : Int), 0)) : wget (p ++ q) a = ((n : Int), (b : Int), 0) := by
  rw [← h]
  have h0 : (wget p a).2.2 = 0 := by rw [h]
  clear h
  have hsz : (p ++ q).size = p.size + q.size := ByteArray.size_append
  unfold wget at h0 ⊢
  by_cases c1 : p.size < a
  · rw [if_pos c1] at h0
    simp at h0
  rw [if_neg c1] at h0 ⊢
  by_cases c2 : a = p.size
  · rw [if_pos c2] at h0
    simp at h0
  rw [if_neg c2] at h0 ⊢
  have hb : byt (p ++ q) a = byt p a := byt_append_l _ _ _ (by omega)
  rw [if_neg (by omega), if_neg (by omega), hb]
  by_cases c3 : 199 < byt p a
  · rw [if_pos c3] at h0
    simp at h0
  rw [if_neg c3] at h0 ⊢
  by_cases c4 : byt p a < 192
  · rw [if_pos c4, if_neg c3, if_pos c4]
  rw [if_neg c4] at h0 ⊢
  by_cases c5 : p.size - a ≤ byt p a - 191
  · rw [if_pos c5] at h0
    simp at h0
  have hv : wval (p ++ q) (a + 1) (byt p a - 191) = wval p (a + 1) (byt p a - 191) := wval_ext _ _ _ _ _ (fun j hj => byt_append_l _ _ _ (by omega))
  have hb1 : byt (p ++ q) (a + 1) = byt p (a + 1) := byt_append_l _ _ _ (by omega)
  rw [if_neg c3, if_neg c4, if_neg (by omega), if_neg c5, hv, hb1]
theorem byt_wput (n i : Nat) (hn : n < 18446744073709551616) (h : i < (wlist n).length) : (wlist n)[i]? = some (byt (wput n) i : Int) := by
  have := bytesOf_get (wput n) i (by unfold wput; rw [strOfNums_size]; exact h)
  unfold wput at this
  rw [bytesOf_strOfNums _ (wlist_range n hn)] at this
  exact this
theorem wval_digs (s : ByteArray) (b : Nat) : ∀ (m n : Nat), (∀ i, i < m → (digs n m)[i]? = some (byt s (b + i) : Int)) → wval s b m = n % 256 ^ m
  | 0, n, _ => by
    rw [wval, Nat.pow_zero, Nat.mod_one]
  | m + 1, n, h => by
    have ih := wval_digs s b m (n / 256) (fun i hi => by
      have := h i (by omega)
      rw [digs, List.getElem?_append_left (by rw [digs_length]; exact hi)] at this
      exact this)
    have hl := h m (by omega)
    rw [digs, List.getElem?_append_right (by rw [digs_length]; exact Nat.le_refl _), digs_length, Nat.sub_self] at hl
    simp only [List.getElem?_cons_zero, Option.some.injEq] at hl
    rw [wval, ih, Nat.pow_succ, Nat.mul_comm (256 ^ m) 256, Nat.mod_mul]
    omega
theorem wget_put (p q : ByteArray) (n : Nat) (hn : n < 18446744073709551616) : wget (p ++ (wput n ++ q)) p.size = ((n : Int), ((p.size + (wput n).size : Nat) : Int), 0) := by
  have hsz : (p ++ (wput n ++ q)).size = p.size + ((wput n).size + q.size) := by rw [ByteArray.size_append, ByteArray.size_append]
  have hwz : (wput n).size = (wlist n).length := by unfold wput; rw [strOfNums_size]
  have hby : ∀ i, i < (wput n).size → byt (p ++ (wput n ++ q)) (p.size + i) = byt (wput n) i := fun i hi => by rw [byt_append_r, byt_append_l _ _ _ hi]
  have hlen := wlist_length n
  have h0 := hby 0 (by rw [hwz, hlen]; split <;> omega)
  rw [Nat.add_zero] at h0
  by_cases c : n < 192
  · rw [if_pos c] at hlen
    have hb := byt_wput n 0 hn (by omega)
    unfold wlist at hb
    rw [if_pos c] at hb
    simp only [List.getElem?_cons_zero, Option.some.injEq] at hb
    unfold wget
    rw [if_neg (by omega), if_neg (by omega), h0, if_neg (by omega), if_pos (by omega)]
    congr 1
    · omega
    · congr 1
      omega
  · rw [if_neg c] at hlen
    have hm8 := blen_le n 8 hn
    have hm1 : 1 ≤ blen n := by
      rcases Nat.eq_zero_or_pos (blen n) with e | e
      · have := blen_lt n
        rw [e] at this
        simp at this
        omega
      · exact e
    have hb := byt_wput n 0 hn (by omega)
    have hd : ∀ i, i < blen n → (digs n (blen n))[i]? = some (byt (p ++ (wput n ++ q)) (p.size + 1 + i) : Int) := by
      intro i hi
      have h1 := byt_wput n (i + 1) hn (by omega)
      unfold wlist at h1
      rw [if_neg c, List.getElem?_cons_succ] at h1
      rw [h1, Nat.add_assoc, Nat.add_comm 1 i, hby (i + 1) (by omega)]
    unfold wlist at hb
    rw [if_neg c] at hb
    simp only [List.getElem?_cons_zero, Option.some.injEq] at hb
    have hv := wval_digs (p ++ (wput n ++ q)) (p.size + 1) (blen n) n hd
    rw [Nat.mod_eq_of_lt (blen_lt n)] at hv
    have hne : byt (p ++ (wput n ++ q)) (p.size + 1) ≠ 0 := by
      intro e
      obtain ⟨m, hm⟩ : ∃ m, blen n = m + 1 := ⟨blen n - 1, by omega⟩
      have := wval_head0 _ _ e m
      rw [← hm, hv] at this
      have := blen_le n m this
      omega
    unfold wget
    rw [if_neg (by omega), if_neg (by omega), h0, if_neg (by omega), if_neg (by omega), if_neg (by omega), show byt (wput n) 0 - 191 = blen n by omega, hv, if_neg (by omega)]
    congr 2
    omega
theorem wget_form (s : ByteArray) (a n b : Nat) (h : wget s a = ((n : Int), (b : Int), 0)) : s.extract a b = wput n ∧ n < 18446744073709551616 ∧ a < b ∧ b ≤ s.size := by
  obtain ⟨n', b', e, hn, hab, hb⟩ := wget_ok s a (by rw [h])
  rw [h] at e
  simp only [Prod.mk.injEq] at e
  obtain rfl : n = n' := by omega
  obtain rfl : b = b' := by omega
  refine ⟨?_, hn, hab, hb⟩
  have hc := byt_lt s a
  unfold wget at h
  rw [if_neg (by omega), if_neg (by omega)] at h
  by_cases c3 : 199 < byt s a
  · rw [if_pos c3] at h
    simp at h
  rw [if_neg c3] at h
  by_cases c4 : byt s a < 192
  · rw [if_pos c4] at h
    simp only [Prod.mk.injEq] at h
    unfold wput wlist
    rw [if_pos (by omega)]
    refine ((strOfNums_eq_iff _ _ ?_).2 ?_).symm
    · intro x hx
      simp at hx
      omega
    · rw [bytesOf_extract s a b (by omega) hb, show b - a = 1 by omega]
      simp
      omega
  rw [if_neg c4] at h
  by_cases c5 : s.size - a ≤ byt s a - 191
  · rw [if_pos c5] at h
    simp at h
  rw [if_neg c5] at h
  by_cases c6 : wval s (a + 1) (byt s a - 191) < 192 ∨ byt s (a + 1) = 0
  · rw [if_pos c6] at h
    simp at h
  rw [if_neg c6] at h
  simp only [Prod.mk.injEq] at h
  have hl := (least_form s a (byt s a - 191) (by omega) (by omega) (by omega) (by omega)).2 c6
  rw [toList_inj] at hl
  have hb2 : b = a + 1 + (byt s a - 191) := Int.ofNat.inj h.2.1.symm
  have hn2 : n = wval s (a + 1) (byt s a - 191) := Int.ofNat.inj h.1.symm
  rw [hn2, hb2]
  exact hl.symm
/-! ## Tokens -/
theorem nil_append (p : ByteArray) : p ++ ⟨#[]⟩ = p := by
  apply ext_byt
  · rw [ByteArray.size_append]; rfl
  · intro i hi
    rw [ByteArray.size_append] at hi
    exact byt_append_l _ _ _ (by have : (⟨#[]⟩ : ByteArray).size = 0 := rfl; omega)
theorem encL_append : ∀ (l : List S43) (p : ByteArray), ∃ x, encL l p = p ++ x
  | [], p => ⟨⟨#[]⟩, by rw [nil_append, encL]⟩
  | t :: r, p => by
    obtain ⟨x, hx⟩ := encL_append r (p ++ wput (tn t))
    exact ⟨wput (tn t) ++ x, by rw [encL, hx, append_assoc']⟩
theorem tok_ok (t : S43) (m : Int) (h : fitsB t.f0 t.f1 m = true) (hm : m ≤ 1048576) : tn t ≤ 4294967296 ∧ (⟨(tn t : Int) % 6, (tn t : Int) / 6⟩ : S43) = t := by
  have hr : 0 ≤ t.f0 ∧ t.f0 ≤ 5 ∧ 0 ≤ t.f1 ∧ t.f1 ≤ 1048576 := by
    unfold fitsB at h
    by_cases c0 : t.f0 = 0
    · rw [if_pos c0] at h
      simp at h
      omega
    rw [if_neg c0] at h
    by_cases c5 : t.f0 = 5
    · rw [if_pos c5] at h
      simp at h
      omega
    rw [if_neg c5] at h
    by_cases c6 : 0 < t.f0 ∧ t.f0 < 6
    · rw [if_pos c6] at h
      simp at h
      omega
    · rw [if_neg c6] at h
      cases h
  obtain ⟨h1, h2⟩ := tn_nat t
  unfold tokNum at h1
  rw [show wrap64 (t.f1 * 6) = t.f1 * 6 by unfold wrap64; omega, show wrap64 (t.f1 * 6 + t.f0) = t.f1 * 6 + t.f0 by unfold wrap64; omega, u64_mod, Int.emod_eq_of_lt (by omega) (by omega)] at h1
  refine ⟨by omega, ?_⟩
  obtain ⟨a, b⟩ := t
  simp only at h1 hr
  congr 1 <;> omega
theorem toks_enc : ∀ (l : List S43) (p : ByteArray) (acc : List S43) (m : Int), rspec l m = true → 0 ≤ m → m + l.length ≤ 1048576 → toks (encL l p) l.length p.size acc = (acc ++ l, (encL l p).size, 0)
  | [], p, acc, m, _, _, _ => by simp [toks, encL]
  | t :: r, p, acc, m, h, h0, hm => by
    simp only [rspec, Bool.and_eq_true] at h
    simp only [List.length_cons] at hm ⊢
    obtain ⟨h1, h2⟩ := tok_ok t m h.1 (by omega)
    obtain ⟨x, hx⟩ := encL_append r (p ++ wput (tn t))
    have hw : wget (encL (t :: r) p) p.size = ((tn t : Int), ((p.size + (wput (tn t)).size : Nat) : Int), 0) := by
      rw [encL, hx, append_assoc']
      exact wget_put p x (tn t) (by omega)
    unfold toks
    rw [hw, if_pos rfl, if_neg (by omega), h2]
    have := toks_enc r (p ++ wput (tn t)) (acc ++ [t]) _ h.2.2 (by split <;> omega) (by split <;> omega)
    rw [ByteArray.size_append] at this
    simp only [Int.toNat_natCast]
    rw [show encL (t :: r) p = encL r (p ++ wput (tn t)) from rfl, this]
    simp
theorem toks_ext (p q : ByteArray) : ∀ (c a : Nat) (acc l : List S43) (b : Nat), toks p c a acc = (l, b, 0) → toks (p ++ q) c a acc = (l, b, 0) := by
  intro c
  induction c with
  | zero => exact fun a acc l b h => h
  | succ c ih =>
    intro a acc l b h
    unfold toks at h ⊢
    by_cases c0 : (wget p a).2.2 = 0
    · obtain ⟨n, b1, hw, hn, hab, hb⟩ := wget_ok p a c0
      rw [if_pos c0, hw] at h
      rw [wget_ext p q a n b1 hw, if_pos rfl]
      by_cases c1 : (n : Int) > 4294967296
      · rw [if_pos c1] at h
        simp at h
      · rw [if_neg c1] at h ⊢
        exact ih _ _ _ _ h
    · rw [if_neg c0] at h
      simp only [Prod.mk.injEq] at h
      exact absurd h.2.2 c0
theorem tn_of (n : Nat) (h : (n : Int) ≤ 4294967296) : tn ⟨(n : Int) % 6, (n : Int) / 6⟩ = n := by
  have h1 := (tn_nat ⟨(n : Int) % 6, (n : Int) / 6⟩).1
  unfold tokNum at h1
  simp only at h1
  rw [show wrap64 ((n : Int) / 6 * 6) = (n : Int) / 6 * 6 by unfold wrap64; omega, show wrap64 ((n : Int) / 6 * 6 + (n : Int) % 6) = (n : Int) by unfold wrap64; omega, u64_mod, Int.emod_eq_of_lt (by omega) (by omega)] at h1
  omega
theorem toks_form (x : ByteArray) : ∀ (c a : Nat) (acc l : List S43) (b : Nat), a ≤ x.size → toks x c a acc = (l, b, 0) → ∃ l', l = acc ++ l' ∧ l'.length = c ∧ b ≤ x.size ∧ x.extract 0 b = encL l' (x.extract 0 a) := by
  intro c
  induction c with
  | zero =>
    intro a acc l b ha h
    unfold toks at h
    simp only [Prod.mk.injEq] at h
    obtain ⟨rfl, rfl, _⟩ := h
    exact ⟨[], by simp, rfl, ha, rfl⟩
  | succ c ih =>
    intro a acc l b ha h
    unfold toks at h
    by_cases c0 : (wget x a).2.2 = 0
    · obtain ⟨n, b1, hw, hn, hab, hb⟩ := wget_ok x a c0
      rw [if_pos c0, hw] at h
      by_cases c1 : (n : Int) > 4294967296
      · rw [if_pos c1] at h
        simp at h
      · rw [if_neg c1] at h
        simp only [Int.toNat_natCast] at h
        obtain ⟨l', h1, h2, h3, h4⟩ := ih b1 _ l b hb h
        refine ⟨⟨(n : Int) % 6, (n : Int) / 6⟩ :: l', by rw [h1, List.append_assoc]; rfl, by simp [h2], h3, ?_⟩
        rw [h4, encL, tn_of n (by omega), ← (wget_form x a n b1 hw).1, cut_append x 0 a b1 (by omega) (by omega) hb]
    · rw [if_neg c0] at h
      simp only [Prod.mk.injEq] at h
      exact absurd h.2.2 c0
/-! ## Certificates -/
/-- A certificate's bytes ahead of their sum. -/
def body (l : List S43) : ByteArray := encL l (clew4 ++ wput l.length)
theorem seal_size (x : ByteArray) : (seal24 x).size = x.size + 3 := by unfold seal24; rw [ByteArray.size_append, three_size]
theorem open_seal (x : ByteArray) : open24 (seal24 x) = (x, 0) := by
  have hz := seal_size x
  have hc : (seal24 x).extract 0 ((seal24 x).size - 3) = x := by
    rw [hz, show x.size + 3 - 3 = x.size by omega]
    exact cut_left x (three x)
  unfold open24
  rw [if_neg (by omega), hc, if_pos rfl]
theorem open_form (s x : ByteArray) (h : open24 s = (x, 0)) : s = seal24 x := by
  unfold open24 at h
  by_cases c : s.size < 3
  · rw [if_pos c] at h
    simp at h
  rw [if_neg c] at h
  by_cases c2 : (seal24 (s.extract 0 (s.size - 3))).toList = s.toList
  · rw [if_pos c2] at h
    simp only [Prod.mk.injEq] at h
    rw [toList_inj] at c2
    rw [← h.1]
    exact c2.symm
  · rw [if_neg c2] at h
    simp at h
theorem body_append (l : List S43) : ∃ x, body l = clew4 ++ (wput l.length ++ x) := by
  obtain ⟨x, hx⟩ := encL_append l (clew4 ++ wput l.length)
  exact ⟨x, by rw [body, hx, append_assoc']⟩
theorem clew_of (x : ByteArray) : clewB (clew4 ++ x) = true := by
  have hz : clew4.size = 4 := rfl
  have hc := cut_left clew4 x
  rw [hz] at hc
  unfold clewB
  rw [hc, ByteArray.size_append, ByteArray.toList_eq]
  have : decide (4 ≤ clew4.size + x.size) = true := by simp; omega
  rw [this]
  rfl
theorem clew_form (x : ByteArray) (h : clewB x = true) : 4 ≤ x.size ∧ x.extract 0 4 = clew4 := by
  unfold clewB at h
  simp at h
  refine ⟨h.1, ?_⟩
  rw [← toList_inj, h.2, ByteArray.toList_eq]
  rfl
theorem right_parts {l : List S43} (h : rightB l = true) : l.length ≤ 1048576 ∧ rspec l 0 = true := by
  unfold rightB at h
  simp only [Bool.and_eq_true, decide_eq_true_eq] at h
  exact ⟨h.1, h.2.2⟩
theorem wget_body (l : List S43) (h : l.length ≤ 1048576) (q : ByteArray) : wget (body l ++ q) 4 = ((l.length : Int), ((4 + (wput l.length).size : Nat) : Int), 0) := by
  obtain ⟨x, hx⟩ := body_append l
  have := wget_put clew4 (x ++ q) l.length (by omega)
  rw [hx, append_assoc', append_assoc']
  exact this
theorem toks_body {l : List S43} (h : rightB l = true) : toks (body l) l.length (4 + (wput l.length).size) [] = (l, (body l).size, 0) := by
  obtain ⟨h1, h2⟩ := right_parts h
  have := toks_enc l (clew4 ++ wput l.length) [] 0 h2 (by omega) (by omega)
  rw [ByteArray.size_append] at this
  exact this
/-- What may be is decoded as it was. -/
theorem dec_enc {l : List S43} (h : rightB l = true) : decS (encS l) = (l, 0) := by
  obtain ⟨h1, h2⟩ := right_parts h
  obtain ⟨x, hx⟩ := body_append l
  have hw := wget_body l h1 ⟨#[]⟩
  rw [nil_append] at hw
  unfold decS encS
  rw [if_pos h, show encL l (clew4 ++ wput l.length) = body l from rfl, open_seal]
  rw [if_pos rfl, if_pos (by rw [hx]; exact clew_of _), hw]
  rw [if_pos rfl, if_neg (by omega)]
  simp only [Int.toNat_natCast]
  rw [toks_body h]
  unfold told
  rw [if_pos rfl, if_pos ⟨rfl, h⟩]
/-- What is decoded may be, and has just these bytes. -/
theorem enc_dec {s : ByteArray} {y : List S43} (h : decS s = (y, 0)) : rightB y = true ∧ encS y = s := by
  unfold decS at h
  by_cases c0 : (open24 s).2 = 0
  · rw [if_pos c0] at h
    have hs := open_form s (open24 s).1 (by rw [← c0])
    generalize (open24 s).1 = x at h hs
    by_cases c1 : clewB x = true
    · rw [if_pos c1] at h
      obtain ⟨h4, hc⟩ := clew_form x c1
      by_cases c2 : (wget x 4).2.2 = 0
      · rw [if_pos c2] at h
        obtain ⟨n, b, hw, hn, hab, hb⟩ := wget_ok x 4 c2
        rw [hw] at h
        simp only [Int.toNat_natCast] at h
        by_cases c3 : (n : Int) > 1048576
        · rw [if_pos c3] at h
          simp at h
        · rw [if_neg c3] at h
          have hf := toks_form x n b [] (toks x n b []).1 (toks x n b []).2.1 hb
          generalize toks x n b [] = r at h hf
          obtain ⟨l, e, z⟩ := r
          unfold told at h
          simp only at h hf
          by_cases c4 : z = 0
          · rw [if_pos c4] at h
            by_cases c5 : e = x.size ∧ rightB l = true
            · rw [if_pos c5] at h
              simp only [Prod.mk.injEq] at h
              obtain ⟨rfl, _⟩ := h
              obtain ⟨l', h1, h2, h3, h5⟩ := hf (by rw [c4])
              rw [List.nil_append] at h1
              subst h1
              refine ⟨c5.2, ?_⟩
              unfold encS
              rw [if_pos c5.2, hs, h2, ← hc, ← (wget_form x 4 n b hw).1, cut_append x 0 4 b (by omega) (by omega) hb, ← h5, c5.1, cut_all]
            · rw [if_neg c5] at h
              simp at h
          · rw [if_neg c4] at h
            simp only [Prod.mk.injEq] at h
            exact absurd h.2 c4
      · rw [if_neg c2] at h
        simp only [Prod.mk.injEq] at h
        exact absurd h.2 c2
    · rw [if_neg c1] at h
      simp at h
  · rw [if_neg c0] at h
    simp only [Prod.mk.injEq] at h
    exact absurd h.2 c0
/-- No body begins another one. -/
theorem body_prefix {l y : List S43} (hl : rightB l = true) (hy : rightB y = true) (q : ByteArray) (h : body l = body y ++ q) : (body l).size = (body y).size := by
  have h1 := (right_parts hl).1
  have h2 := (right_parts hy).1
  have hw1 := wget_body l h1 ⟨#[]⟩
  rw [nil_append, h, wget_body y h2 q] at hw1
  simp only [Prod.mk.injEq] at hw1
  have hlen : y.length = l.length := by omega
  have ht := toks_ext (body y) q _ _ _ _ _ (toks_body hy)
  rw [← h, hlen, toks_body hl] at ht
  simp only [Prod.mk.injEq] at ht
  exact ht.2.1
theorem enc_body {l : List S43} (h : rightB l = true) : encS l = seal24 (body l) := by unfold encS; rw [if_pos h]; rfl
end Go.Proofs.YtamalmopbncibaaDoor.Pure
