/- The document's Get comes to what the program's comes to. Plain numbers and lists. -/
import Derived.Test.YtamalmopbncibaaDoorPureWire
namespace Go.Proofs.YtamalmopbncibaaDoor.Pure
open Go.RowKit Go.Proofs.YtamalmopbncibaaDoor.PK Go.Proofs.YtamalmopbncibaaDoorW.PrintWords Go.Proofs.YtamalmopbncibaaDoorW.PrintLast Go.Proofs.YtamalmopbncibaaDoorW.PrintMore
set_option linter.unusedVariables false

theorem bytesOf_strOfNums (l : List Int) (h : ∀ x ∈ l, 0 ≤ x ∧ x < 256) : bytesOf (strOfNums l) = l := by
  unfold bytesOf
  rw [strOfNums_data, List.map_map]
  conv => rhs; rw [← List.map_id l]
  apply List.map_congr_left
  intro x hx
  obtain ⟨h0, h1⟩ := h x hx
  simp only [Function.comp_apply, id_eq]
  rw [UInt8.toNat_ofNat']
  omega
theorem strOfNums_bytesOf (s : ByteArray) : strOfNums (bytesOf s) = s := by
  apply ByteArray.ext
  apply Array.toList_inj.1
  rw [strOfNums_data]
  unfold bytesOf
  rw [List.map_map]
  conv => rhs; rw [← List.map_id s.data.toList]
  apply List.map_congr_left
  intro x _
  simp
theorem toList_inj (a b : ByteArray) : a.toList = b.toList ↔ a = b := by
  rw [ByteArray.toList_eq, ByteArray.toList_eq]
  exact ⟨fun h => ByteArray.ext (Array.toList_inj.1 h), fun h => by rw [h]⟩
theorem strOfNums_eq_iff (l : List Int) (t : ByteArray) (h : ∀ x ∈ l, 0 ≤ x ∧ x < 256) : strOfNums l = t ↔ l = bytesOf t :=
  ⟨fun e => by rw [← e, bytesOf_strOfNums l h], fun e => by rw [e, strOfNums_bytesOf]⟩
theorem bytesOf_extract (s : ByteArray) (a e : Nat) (h1 : a ≤ e) (h2 : e ≤ s.size) : bytesOf (s.extract a e) = (List.range (e - a)).map fun i => (byt s (a + i) : Int) := by
  apply List.ext_getElem?
  intro i
  rcases Nat.lt_or_ge i (e - a) with hi | hi
  · have hl : i < (s.extract a e).data.toList.length := by
      rw [Array.length_toList]
      show i < (s.extract a e).size
      simp
      omega
    unfold bytesOf
    rw [List.getElem?_map, List.getElem?_eq_getElem hl, List.getElem?_map, List.getElem?_range hi]
    simp only [Option.map_some]
    congr 2
    unfold byt
    have hl2 : a + i < s.data.toList.length := by
      rw [Array.length_toList]
      show a + i < s.size
      omega
    rw [List.getD_eq_getElem?_getD, List.getElem?_eq_getElem hl2]
    simp [ByteArray.data_extract]
  · rw [List.getElem?_eq_none (by rw [bytesOf_length]; simp; omega), List.getElem?_eq_none (by simpa using hi)]
theorem digs_wval (s : ByteArray) (b : Nat) : ∀ m, digs (wval s b m) m = (List.range m).map fun i => (byt s (b + i) : Int)
  | 0 => rfl
  | m + 1 => by
    have hb := byt_lt s (b + m)
    rw [digs, wval, show (wval s b m * 256 + byt s (b + m)) / 256 = wval s b m by omega, show (wval s b m * 256 + byt s (b + m)) % 256 = byt s (b + m) by omega, digs_wval s b m, List.range_succ, List.map_append]
    rfl
theorem wval_head0 (s : ByteArray) (b : Nat) (h : byt s b = 0) : ∀ m, wval s b (m + 1) < 256 ^ m
  | 0 => by
    rw [wval, wval]
    simp [h]
  | m + 1 => by
    have := wval_head0 s b h m
    have := byt_lt s (b + (m + 1))
    rw [wval, Nat.pow_succ]
    omega
theorem wval_head (s : ByteArray) (b : Nat) (h : byt s b ≠ 0) : ∀ m, 256 ^ m ≤ wval s b (m + 1)
  | 0 => by
    rw [wval, wval]
    simp
    omega
  | m + 1 => by
    have := wval_head s b h m
    rw [wval, Nat.pow_succ]
    omega
theorem digs_range (m : Nat) : ∀ n, ∀ x ∈ digs n m, 0 ≤ x ∧ x < 256 := by
  induction m with
  | zero => exact fun n x h => by simp [digs] at h
  | succ m ih =>
    intro n x h
    rw [digs, List.mem_append] at h
    rcases h with h | h
    · exact ih _ x h
    · simp at h
      omega
theorem wlist_range (n : Nat) (h : n < 18446744073709551616) : ∀ x ∈ wlist n, 0 ≤ x ∧ x < 256 := by
  intro x hx
  unfold wlist at hx
  by_cases c : n < 192
  · rw [if_pos c] at hx
    simp at hx
    omega
  · rw [if_neg c, List.mem_cons] at hx
    have := blen_le n 8 h
    rcases hx with hx | hx
    · omega
    · exact digs_range _ _ x hx
theorem wlist_length (n : Nat) : (wlist n).length = if n < 192 then 1 else 1 + blen n := by
  unfold wlist
  by_cases c : n < 192
  · rw [if_pos c, if_pos c]; rfl
  · rw [if_neg c, if_neg c, List.length_cons, digs_length]; omega
theorem least_form (s : ByteArray) (a m : Nat) (hm : 1 ≤ m) (hm8 : m ≤ 8) (ha : a + m < s.size) (hc : byt s a = 191 + m) :
    (wput (wval s (a + 1) m)).toList = (s.extract a (a + 1 + m)).toList ↔ ¬ (wval s (a + 1) m < 192 ∨ byt s (a + 1) = 0) := by
  have hv := Nat.lt_of_lt_of_le (wval_lt s (a + 1) m) (pow_le8 m hm8)
  rw [toList_inj]
  unfold wput
  rw [strOfNums_eq_iff _ _ (wlist_range _ hv), bytesOf_extract s a (a + 1 + m) (by omega) (by omega), show a + 1 + m - a = m + 1 by omega]
  obtain ⟨q, rfl⟩ : ∃ q, m = q + 1 := ⟨m - 1, by omega⟩
  constructor
  · intro h c
    have hl := congrArg List.length h
    rw [wlist_length, List.length_map, List.length_range] at hl
    by_cases c1 : wval s (a + 1) (q + 1) < 192
    · rw [if_pos c1] at hl
      omega
    · rw [if_neg c1] at hl
      rcases c with c | c
      · exact c1 c
      · have := blen_le _ _ (wval_head0 s (a + 1) c q)
        omega
  · intro h
    have h1 : ¬ wval s (a + 1) (q + 1) < 192 := fun c => h (.inl c)
    have h2 : byt s (a + 1) ≠ 0 := fun c => h (.inr c)
    have hb := blen_eq _ q (wval_lt s (a + 1) (q + 1)) (wval_head s (a + 1) h2 q)
    unfold wlist
    rw [if_neg h1, hb, digs_wval, List.range_succ_eq_map (n := q + 1), List.map_cons, List.map_map]
    congr 1
    · show ((191 + (q + 1) : Nat) : Int) = ((byt s (a + 0) : Nat) : Int)
      rw [show a + 0 = a from rfl, hc]
    · apply List.map_congr_left
      intro i _
      simp only [Function.comp_apply]
      congr 2
      omega

theorem cast_mul (n : Nat) : (n : Int) * 256 = ((n * 256 : Nat) : Int) := by omega
theorem cast_add (n m : Nat) : (n : Int) + (m : Int) = ((n + m : Nat) : Int) := by omega
theorem put_ref_at (n : Nat) (hv : n < 18446744073709551616) (k : Nat) (hk : 20 ≤ k) : clewref02_Put.f k (n : Int) = some (wput n) := by
  have hl := blen_le n 8 hv
  unfold clewref02_Put.f
  by_cases c : n < 192
  · rw [if_pos (by omega), wlist_small n c]
  · rw [if_neg (by omega), ← strOfNums_nil, put_l0_ref n hv [] k (by simpa using hl) (by omega)]
    unfold wput wlist
    rw [if_neg c, List.append_nil]
    congr 3
    simp
    omega
theorem wval_lt64 (s : ByteArray) (a j : Nat) (h : j ≤ 8) : wval s a j < 18446744073709551616 := Nat.lt_of_lt_of_le (wval_lt s a j) (pow_le8 j h)
theorem wval_step64 (s : ByteArray) (a j : Nat) (h : j + 1 ≤ 8) : IntKind.u64.wrap (IntKind.u64.wrap ((wval s a j : Int) * 256) + IntKind.u64.wrap (byt s (a + j) : Int)) = (wval s a (j + 1) : Int) := by
  have h1 := wval_lt64 s a (j + 1) h
  rw [wval] at h1
  rw [cast_mul, u64_id (wval s a j * 256) (Nat.lt_of_le_of_lt (Nat.le_add_right _ _) h1), u64_id (byt s (a + j)) (Nat.lt_trans (byt_lt _ _) (by decide)), cast_add, u64_id _ h1, wval]
theorem get_ref_l0 (s : ByteArray) (a m : Nat) (hm : 1 ≤ m) (hm8 : m ≤ 8) (ha : a + m < s.size) (hs : s.size ≤ 1099511627776) (hc : byt s a = 191 + m) : ∀ d j k, j + d = m → d + 20 < k →
    clewref02_Get.l0 k s (a : Int) ((191 + m : Nat) : Int) (wval s (a + 1) j : Int) ((1 + j : Nat) : Int) = some (if wval s (a + 1) m < 192 ∨ byt s (a + 1) = 0 then (0, 0, 3) else ((wval s (a + 1) m : Int), (a : Int) + 1 + (m : Int), 0)) := by
  intro d
  induction d with
  | zero =>
    intro j k hj hk
    obtain rfl : j = m := by omega
    obtain ⟨k, rfl⟩ : ∃ m, k = m + 1 := ⟨k - 1, by omega⟩
    simp only [clewref02_Get.l0]
    have e1 : wrap64 (((191 + j : Nat) : Int) - 191) = (j : Int) := by unfold wrap64; omega
    have e2 : wrap64 (wrap64 (wrap64 ((a : Int) + 1) + ((191 + j : Nat) : Int)) - 191) = ((a + 1 + j : Nat) : Int) := by unfold wrap64; omega
    rw [e1, if_neg (by omega), put_ref_at _ (wval_lt64 s (a + 1) j hm8) k (by omega), Option.bind_some]
    rw [e2, if_pos (by omega), if_pos (by omega), if_pos (by omega), Int.toNat_natCast, Int.toNat_natCast]
    have hiff := least_form s a j hm hm8 ha hc
    by_cases c : wval s (a + 1) j < 192 ∨ byt s (a + 1) = 0
    · rw [if_neg (fun h => hiff.1 h c), if_pos c]
    · rw [if_pos (hiff.2 c), if_neg c]
      simp
  | succ d ih =>
    intro j k hj hk
    obtain ⟨k, rfl⟩ : ∃ m, k = m + 1 := ⟨k - 1, by omega⟩
    simp only [clewref02_Get.l0]
    have e1 : wrap64 (((191 + m : Nat) : Int) - 191) = (m : Int) := by unfold wrap64; omega
    have e2 : wrap64 ((a : Int) + ((1 + j : Nat) : Int)) = ((a + 1 + j : Nat) : Int) := by unfold wrap64; omega
    rw [e1, if_pos (by omega), e2, if_pos (by omega), if_pos (by omega), bt_byt s _ (by omega), wval_step64 s (a + 1) j (by omega)]
    rw [show wrap64 (((1 + j : Nat) : Int) + 1) = ((1 + (j + 1) : Nat) : Int) by unfold wrap64; omega]
    exact ih (j + 1) k (by omega) (by omega)

theorem get_ref (s : ByteArray) (a : Nat) (hs : s.size ≤ 1099511627776) (ha : a ≤ 1099511627776) (k : Nat) (hk : 40 ≤ k) : clewref02_Get.f k s (a : Int) = some (wget s a) := by
  obtain ⟨k, rfl⟩ : ∃ m, k = m + 1 := ⟨k - 1, by omega⟩
  unfold clewref02_Get.f wget
  rw [if_neg (by omega)]
  simp only [clewref02_Get.j0]
  by_cases c1 : s.size < a
  · rw [if_pos (by simpa using c1), if_pos c1]
  · rw [if_neg (by simpa using c1), if_neg c1]
    by_cases c2 : a = s.size
    · rw [if_pos (by omega), if_pos c2]
    · have hbl := byt_lt s a
      rw [if_neg (by omega), if_neg c2, if_pos (by omega), if_pos (by omega), bt_byt s a (by omega), show wrap64 (byt s a : Int) = (byt s a : Int) by unfold wrap64; omega]
      by_cases c3 : 199 < byt s a
      · rw [if_pos (by omega), if_pos c3]
      · rw [if_neg (by omega), if_neg c3]
        by_cases c4 : byt s a < 192
        · rw [if_pos (by omega), if_pos c4, u64_id _ (by omega), show wrap64 ((a : Int) + 1) = (a : Int) + 1 by unfold wrap64; omega]
        · rw [if_neg (by omega), if_neg c4]
          by_cases c5 : s.size - a ≤ byt s a - 191
          · rw [if_pos (by unfold wrap64; omega), if_pos c5]
          · rw [if_neg (by unfold wrap64; omega), if_neg c5]
            have := get_ref_l0 s a (byt s a - 191) (by omega) (by omega) (by omega) hs (by omega) (byt s a - 191) 0 k (by omega) (by omega)
            rw [show 191 + (byt s a - 191) = byt s a by omega] at this
            exact this
end Go.Proofs.YtamalmopbncibaaDoor.Pure
