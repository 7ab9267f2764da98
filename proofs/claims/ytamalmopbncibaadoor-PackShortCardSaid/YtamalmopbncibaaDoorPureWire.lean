/- Numbers as bytes: what the program's and the document's ways come to, and that they are the same. Plain numbers and lists. -/
import Derived.Test.YtamalmopbncibaaDoorPureCrc
import Derived.Test.YtamalmopbncibaaDoorPKx4
import Derived.Test.YtamalmopbncibaaDoorPKx5
import Derived.Test.YtamalmopbncibaaDoorPKx7
import Derived.Laws.Strings
namespace Go.Proofs.YtamalmopbncibaaDoor.Pure
open Go.RowKit Go.Proofs.YtamalmopbncibaaDoor.PK Go.Proofs.YtamalmopbncibaaDoorW.PrintWords Go.Proofs.YtamalmopbncibaaDoorW.PrintLast Go.Proofs.YtamalmopbncibaaDoorW.PrintMore
set_option linter.unusedVariables false

def byt (s : ByteArray) (i : Nat) : Nat := (s.data.toList.getD i 0).toNat
theorem byt_lt (s : ByteArray) (i : Nat) : byt s i < 256 := byte_lt _
theorem bt_byt (s : ByteArray) (i : Nat) (h : i < s.size) : bt s (i : Int) = (byt s i : Int) := byte_at s i h
theorem byt_extract (s : ByteArray) (a i : Nat) (h : a + i < s.size) : byt (s.extract a s.size) i = byt s (a + i) := by
  have h1 := bt_byt (s.extract a s.size) i (by simp; omega)
  have h2 := bt_byt s (a + i) h
  have h3 : bt (s.extract a s.size) (i : Int) = bt s ((a + i : Nat) : Int) := by
    unfold bt
    rw [dif_pos (by simp; omega), dif_pos (by simp; omega)]
    simp only [Int.toNat_natCast]
    rw [ByteArray.getElem_extract]
  omega
/-- The value of so many bytes from a place on. -/
def wval (s : ByteArray) (a : Nat) : Nat → Nat
  | 0 => 0
  | m + 1 => wval s a m * 256 + byt s (a + m)
theorem wval_lt (s : ByteArray) (a : Nat) : ∀ m, wval s a m < 256 ^ m
  | 0 => by simp [wval]
  | m + 1 => by
    have := wval_lt s a m
    have := byt_lt s (a + m)
    rw [wval, Nat.pow_succ]
    omega
theorem pow_le8 (m : Nat) (h : m ≤ 8) : 256 ^ m ≤ 18446744073709551616 := Nat.le_trans (Nat.pow_le_pow_right (n := 256) (by decide) h) (by decide)
/-- What Get tells. -/
def wget (s : ByteArray) (a : Nat) : Int × Int × Int :=
  if s.size < a then (0, 0, 1) else if a = s.size then (0, 0, 2) else
  if 199 < byt s a then (0, 0, 3) else if byt s a < 192 then ((byt s a : Int), (a : Int) + 1, 0) else
  if s.size - a ≤ byt s a - 191 then (0, 0, 2) else
  if wval s (a + 1) (byt s a - 191) < 192 ∨ byt s (a + 1) = 0 then (0, 0, 3) else ((wval s (a + 1) (byt s a - 191) : Int), (a : Int) + 1 + (byt s a - 191 : Nat), 0)
theorem u64_id (n : Nat) (h : n < 18446744073709551616) : IntKind.u64.wrap (n : Int) = (n : Int) := by
  have e : IntKind.u64.wrap (n : Int) = (n : Int) % 18446744073709551616 := by simp [IntKind.wrap, IntKind.bits, IntKind.signed]
  rw [e]
  omega
theorem or_byte (n b : Nat) (h : n * 256 + b < 18446744073709551616) (hb : b < 256) : Go.bits .or .u64 ((n * 256 : Nat) : Int) (b : Int) = ((n * 256 + b : Nat) : Int) := by
  rw [u64_or_nat (n * 256) b (Nat.lt_of_le_of_lt (Nat.le_add_right _ _) h) (Nat.lt_trans hb (by decide)), nat_join 8 (n * 256) b (by omega) (by omega)]

theorem get_l0 (s : ByteArray) (a m : Nat) (hm : 1 ≤ m) (hm8 : m ≤ 8) (ha : a + m < s.size) (hs : s.size ≤ 1099511627776) : ∀ d j k, j + d = m → d < k →
    wire_Get.l0 k (a : Int) (s.extract a s.size) (m : Int) (wval s (a + 1) j : Int) (m : Int) (j : Int) = some (if wval s (a + 1) m < 192 ∨ byt s (a + 1) = 0 then (0, 0, 3) else ((wval s (a + 1) m : Int), (a : Int) + 1 + (m : Int), 0)) := by
  intro d
  induction d with
  | zero =>
    intro j k hj hk
    obtain rfl : j = m := by omega
    obtain ⟨k, rfl⟩ : ∃ m, k = m + 1 := ⟨k - 1, by omega⟩
    simp only [wire_Get.l0]
    have hb : bt (s.extract a s.size) 1 = (byt s (a + 1) : Int) := by
      have := bt_byt (s.extract a s.size) 1 (by simp; omega)
      rw [byt_extract s a 1 (by omega)] at this
      exact this
    rw [if_neg (by omega), hb]
    by_cases c1 : wval s (a + 1) j < 192
    · rw [if_pos (by omega), if_pos (.inl c1)]
    · rw [if_neg (by omega), if_pos (by simp; omega)]
      by_cases c2 : byt s (a + 1) = 0
      · rw [if_pos (by omega), if_pos (.inr c2)]
      · rw [if_neg (by omega), if_neg (by omega)]
        congr 2
        rw [show wrap64 ((a : Int) + 1) = (a : Int) + 1 by unfold wrap64; omega, show wrap64 ((a : Int) + 1 + (j : Int)) = (a : Int) + 1 + (j : Int) by unfold wrap64; omega]
  | succ d ih =>
    intro j k hj hk
    obtain ⟨k, rfl⟩ : ∃ m, k = m + 1 := ⟨k - 1, by omega⟩
    simp only [wire_Get.l0]
    have e1 : wrap64 (1 + (j : Int)) = ((1 + j : Nat) : Int) := by unfold wrap64; omega
    have hb : bt (s.extract a s.size) ((1 + j : Nat) : Int) = (byt s (a + 1 + j) : Int) := by
      rw [bt_byt (s.extract a s.size) (1 + j) (by simp; omega), byt_extract s a (1 + j) (by omega), Nat.add_assoc]
    have hv := wval_lt s (a + 1) (j + 1)
    have hp := pow_le8 (j + 1) (by omega)
    have hbl := byt_lt s (a + 1 + j)
    rw [wval] at hv
    rw [if_pos (by omega), e1, if_pos (by omega), if_pos (by simp; omega), hb, u64_id (byt s (a + 1 + j)) (by omega)]
    rw [show ((wval s (a + 1) j : Int) * 256) = ((wval s (a + 1) j * 256 : Nat) : Int) by omega, u64_id (wval s (a + 1) j * 256) (Nat.lt_of_le_of_lt (Nat.le_add_right _ _) (Nat.lt_of_lt_of_le hv hp)), or_byte (wval s (a + 1) j) (byt s (a + 1 + j)) (Nat.lt_of_lt_of_le hv hp) hbl]
    rw [show wrap64 ((j : Int) + 1) = ((j + 1 : Nat) : Int) by unfold wrap64; omega]
    exact ih (j + 1) k (by omega) (by omega)

theorem get_eq (s : ByteArray) (a : Nat) (hs : s.size ≤ 1099511627776) (ha : a ≤ 1099511627776) (k : Nat) (hk : 20 ≤ k) : wire_Get.f k s (a : Int) = some (wget s a) := by
  obtain ⟨k, rfl⟩ : ∃ m, k = m + 1 := ⟨k - 1, by omega⟩
  unfold wire_Get.f wget
  rw [if_neg (by omega)]
  simp only [wire_Get.j0]
  by_cases c1 : s.size < a
  · rw [if_pos (by simpa using c1), if_pos c1]
  · rw [if_neg (by simpa using c1), if_neg c1, if_pos (by omega), if_pos (by omega), Int.toNat_natCast]
    by_cases c2 : a = s.size
    · rw [if_pos (by rw [ByteArray.toList_eq, c2]; simp), if_pos c2]
    · have hne : ¬ (s.extract a s.size).toList = [] := by
        rw [ByteArray.toList_eq]
        intro h
        have := congrArg List.length h
        rw [Array.length_toList, List.length_nil] at this
        have h2 : (s.extract a s.size).size = 0 := this
        simp at h2
        omega
      have hb : bt (s.extract a s.size) 0 = (byt s a : Int) := by
        have := bt_byt (s.extract a s.size) 0 (by simp; omega)
        rw [byt_extract s a 0 (by omega)] at this
        exact this
      have hbl := byt_lt s a
      rw [if_neg hne, if_neg c2, if_pos (by simp; omega), hb]
      by_cases c3 : 199 < byt s a
      · rw [if_pos (by omega), if_pos c3]
      · rw [if_neg (by omega), if_neg c3]
        by_cases c4 : byt s a < 192
        · rw [if_pos (by omega), if_pos c4, u64_id _ (by omega), show wrap64 ((a : Int) + 1) = (a : Int) + 1 by unfold wrap64; omega]
        · have em : wrap64 (wrap64 (wrap64 (byt s a : Int) - 192) + 1) = ((byt s a - 191 : Nat) : Int) := by unfold wrap64; omega
          rw [if_neg (by omega), if_neg c4, em]
          by_cases c5 : s.size - a ≤ byt s a - 191
          · rw [if_pos (by simp; omega), if_pos c5]
          · rw [if_neg (by simp; omega), if_neg c5]
            exact get_l0 s a (byt s a - 191) (by omega) (by omega) (by omega) hs (byt s a - 191) 0 k (by omega) (by omega)

/-! ## A number's bytes -/
/-- How many bytes. -/
def blen (n : Nat) : Nat := if n = 0 then 0 else 1 + blen (n / 256)
termination_by n
decreasing_by omega
theorem blen_lt (n : Nat) : n < 256 ^ blen n := by
  induction n using Nat.strongRecOn with
  | _ n ih =>
    unfold blen
    by_cases c : n = 0
    · rw [if_pos c]
      simp [c]
    · rw [if_neg c, Nat.pow_add, Nat.pow_one]
      have := ih (n / 256) (by omega)
      omega
theorem blen_le (n m : Nat) (h : n < 256 ^ m) : blen n ≤ m := by
  induction m generalizing n with
  | zero =>
    have : n = 0 := by simpa using h
    unfold blen
    simp [this]
  | succ m ih =>
    unfold blen
    by_cases c : n = 0
    · rw [if_pos c]
      omega
    · rw [if_neg c]
      have := ih (n / 256) (by rw [Nat.pow_succ] at h; omega)
      omega
theorem blen_eq (n m : Nat) (h : n < 256 ^ (m + 1)) (h2 : 256 ^ m ≤ n) : blen n = m + 1 := by
  have h1 := blen_le n (m + 1) h
  rcases Nat.lt_or_ge (blen n) (m + 1) with c | c
  · have h3 := blen_lt n
    have h4 : 256 ^ blen n ≤ 256 ^ m := Nat.pow_le_pow_right (n := 256) (by decide) (by omega)
    omega
  · omega
/-- The last m bytes of a number, the greatest ahead. -/
def digs (n : Nat) : Nat → List Int
  | 0 => []
  | m + 1 => digs (n / 256) m ++ [((n % 256 : Nat) : Int)]
theorem digs_length (m : Nat) : ∀ n, (digs n m).length = m := by
  induction m with
  | zero => exact fun n => rfl
  | succ m ih => exact fun n => by simp [digs, ih]
/-- A number's bytes. -/
def wlist (n : Nat) : List Int := if n < 192 then [(n : Int)] else ((191 + blen n : Nat) : Int) :: digs n (blen n)
def wput (n : Nat) : ByteArray := strOfNums (wlist n)
theorem strOfNums_append (a b : List Int) : strOfNums a ++ strOfNums b = strOfNums (a ++ b) := by
  apply ByteArray.ext
  rw [ByteArray.data_append]
  apply Array.toList_inj.1
  rw [Array.toList_append, strOfNums_data, strOfNums_data, strOfNums_data, List.map_append]
theorem strOfNums_nil : strOfNums [] = ⟨#[]⟩ := rfl
theorem put_l0_ref : ∀ (n : Nat), n < 18446744073709551616 → ∀ (acc : List Int) (k : Nat), blen n + acc.length ≤ 8 → blen n < k →
    clewref02_Put.l0 k (n : Int) (strOfNums acc) = some (strOfNums (((191 + (blen n + acc.length) : Nat) : Int) % 256 :: (digs n (blen n) ++ acc))) := by
  intro n
  induction n using Nat.strongRecOn with
  | _ n ih =>
    intro hn acc k ha hk
    obtain ⟨k, rfl⟩ : ∃ m, k = m + 1 := ⟨k - 1, by omega⟩
    have hlen := blen_le n 8 (by omega)
    simp only [clewref02_Put.l0]
    by_cases c : n = 0
    · subst c
      have hb : blen 0 = 0 := by unfold blen; simp
      rw [if_neg (by omega)]
      simp only [Option.bind_some]
      rw [strOfNums_size, strOfNums_size, if_pos (by simp; omega), strOfNums_append, hb]
      rw [show wrap64 (191 + (acc.length : Int)) = ((191 + (0 + acc.length) : Nat) : Int) by unfold wrap64; omega]
      rfl
    · have hb : blen n = 1 + blen (n / 256) := by conv => lhs; unfold blen; rw [if_neg c]
      rw [if_pos (by omega)]
      simp only [Option.bind_some]
      rw [strOfNums_size, strOfNums_size, if_pos (by simp; omega), strOfNums_append]
      rw [show Int.tdiv (n : Int) 256 = ((n / 256 : Nat) : Int) from by rw [Int.tdiv_eq_ediv_of_nonneg (by omega)]; omega, u64_id _ (by omega)]
      rw [show Int.tmod (n : Int) 256 % 256 = ((n % 256 : Nat) : Int) from by rw [Int.tmod_eq_emod_of_nonneg (by omega)]; omega]
      rw [ih (n / 256) (by omega) (by omega) _ k (by simp; omega) (by omega), hb, show 1 + blen (n / 256) = blen (n / 256) + 1 by omega, digs, List.append_assoc]
      congr 3
      simp
      omega
theorem wlist_small (n : Nat) (h : n < 192) : strOfNums [(n : Int) % 256] = wput n := by
  unfold wput wlist
  rw [if_pos h, show (n : Int) % 256 = (n : Int) by omega]
theorem put_ref (n : Nat) (h : n < 18446744073709551616) : Ev (fun k => clewref02_Put.f k (n : Int)) (wput n) := by
  refine ⟨20, fun k hk => ?_⟩
  show clewref02_Put.f k (n : Int) = _
  unfold clewref02_Put.f
  by_cases c : n < 192
  · rw [if_pos (by omega), wlist_small n c]
  · have hl := blen_le n 8 h
    rw [if_neg (by omega), ← strOfNums_nil, put_l0_ref n h [] k (by simpa using hl) (by omega)]
    unfold wput wlist
    rw [if_neg c, List.append_nil]
    congr 3
    simp
    omega
/-! The program's way: by how many binary digits the number has. -/
theorem bitLen_spec : ∀ f x, x < 2 ^ f → 0 < x → 0 < Lib.bitLenAux f x ∧ x < 2 ^ Lib.bitLenAux f x ∧ 2 ^ (Lib.bitLenAux f x - 1) ≤ x := by
  intro f
  induction f with
  | zero => intro x h h0; simp at h; omega
  | succ f ih =>
    intro x h h0
    unfold Lib.bitLenAux
    rw [if_neg (by omega)]
    by_cases c : x / 2 = 0
    · have hx : x = 1 := by omega
      subst hx
      have e : Lib.bitLenAux f (1 / 2) = 0 := by cases f <;> simp [Lib.bitLenAux]
      rw [e]
      decide
    · obtain ⟨h1, h2, h3⟩ := ih (x / 2) (by rw [Nat.pow_succ] at h; omega) (by omega)
      obtain ⟨b, hb⟩ : ∃ b, Lib.bitLenAux f (x / 2) = b + 1 := ⟨_, (Nat.succ_pred_eq_of_pos h1).symm⟩
      rw [hb] at h2 h3 ⊢
      refine ⟨by omega, ?_, ?_⟩
      · rw [show 1 + (b + 1) = b + 1 + 1 by omega, Nat.pow_succ]
        omega
      · rw [show 1 + (b + 1) - 1 = b + 1 by omega, Nat.pow_succ]
        simp at h3
        omega
theorem bits_bytes (n : Nat) (h0 : 0 < n) (h : n < 2 ^ 64) : (Lib.bitLen n + 7) / 8 = blen n := by
  obtain ⟨h1, h2, h3⟩ := bitLen_spec 64 n h h0
  unfold Lib.bitLen
  generalize Lib.bitLenAux 64 n = b at h1 h2 h3
  obtain ⟨m, hm⟩ : ∃ m, (b + 7) / 8 = m + 1 := ⟨(b + 7) / 8 - 1, by omega⟩
  rw [hm]
  refine (blen_eq n m ?_ ?_).symm
  · have : (256 : Nat) ^ (m + 1) = 2 ^ (8 * (m + 1)) := by rw [Nat.pow_mul]
    rw [this]
    exact Nat.lt_of_lt_of_le h2 (Nat.pow_le_pow_right (n := 2) (by decide) (by omega))
  · have : (256 : Nat) ^ m = 2 ^ (8 * m) := by rw [Nat.pow_mul]
    rw [this]
    exact Nat.le_trans (Nat.pow_le_pow_right (n := 2) (by decide) (by omega)) h3
theorem digs_take (m : Nat) : ∀ n, digs n m = (List.range m).map fun i => ((n / 256 ^ (m - 1 - i) % 256 : Nat) : Int) := by
  induction m with
  | zero => exact fun n => rfl
  | succ m ih =>
    intro n
    rw [digs, ih, List.range_succ, List.map_append]
    congr 1
    · apply List.map_congr_left
      intro i hi
      have hi' : i < m := by simpa using hi
      rw [Nat.div_div_eq_div_mul, show m + 1 - 1 - i = (m - 1 - i) + 1 by omega, Nat.pow_succ, Nat.mul_comm 256]
    · simp
theorem put_l0_eq (n m : Nat) (hm : 1 ≤ m) (hm8 : m ≤ 8) (hd : Int) : ∀ d j k, j + d = m → d < k →
    wire_Put.l0 k (n : Int) (m : Int) (hd :: (List.range j).map fun i => ((n / 256 ^ (m - 1 - i) % 256 : Nat) : Int)) (m : Int) (j : Int) = some (strOfNums (hd :: digs n m)) := by
  intro d
  induction d with
  | zero =>
    intro j k hj hk
    obtain rfl : j = m := by omega
    obtain ⟨k, rfl⟩ : ∃ m, k = m + 1 := ⟨k - 1, by omega⟩
    simp only [wire_Put.l0]
    rw [if_neg (by omega), digs_take]
  | succ d ih =>
    intro j k hj hk
    obtain ⟨k, rfl⟩ : ∃ m, k = m + 1 := ⟨k - 1, by omega⟩
    simp only [wire_Put.l0]
    have e1 : wrap64 (8 * wrap64 (wrap64 ((m : Int) - 1) - (j : Int))) = ((8 * (m - 1 - j) : Nat) : Int) := by unfold wrap64; omega
    have e2 : shr .u64 (n : Int) ((8 * (m - 1 - j) : Nat) : Int) % 256 = ((n / 256 ^ (m - 1 - j) % 256 : Nat) : Int) := by
      unfold shr
      rw [Int.toNat_natCast, Nat.min_eq_left (by show 8 * (m - 1 - j) ≤ 64; omega), show (256 : Nat) ^ (m - 1 - j) = 2 ^ (8 * (m - 1 - j)) by rw [Nat.pow_mul]]
      simp
    rw [if_pos (by omega), e1, if_pos (by omega), if_pos (by simp; omega), e2, show wrap64 ((j : Int) + 1) = ((j + 1 : Nat) : Int) by unfold wrap64; omega]
    have := ih (j + 1) k (by omega) (by omega)
    rw [List.range_succ, List.map_append] at this
    exact this
theorem put_eq (n : Nat) (h : n < 18446744073709551616) (k : Nat) (hk : 20 ≤ k) : wire_Put.f k (n : Int) = some (wput n) := by
  unfold wire_Put.f
  by_cases c : n < 192
  · rw [if_pos (by omega), wlist_small n c]
  · have hl := blen_le n 8 h
    have hb := bits_bytes n (by omega) h
    have h1 : 1 ≤ blen n := by
      rcases Nat.eq_zero_or_pos (blen n) with e | e
      · have := blen_lt n
        rw [e] at this
        simp at this
        omega
      · exact e
    rw [if_neg (by omega)]
    unfold bits_Len64.f
    rw [if_pos (by omega), if_pos (by omega)]
    simp only [Option.bind_some, Int.toNat_natCast]
    have hbl : Lib.bitLen n ≤ 64 := by omega
    have e1 : wrap64 (Int.tdiv (wrap64 (wrap64 ((Lib.bitLen n : Int) + 8) - 1)) 8) = (blen n : Int) := by
      have : wrap64 (wrap64 ((Lib.bitLen n : Int) + 8) - 1) = ((Lib.bitLen n + 7 : Nat) : Int) := by unfold wrap64; omega
      rw [this, Int.tdiv_eq_ediv_of_nonneg (by omega)]
      unfold wrap64
      omega
    rw [e1, show wrap64 (wrap64 (192 + (blen n : Int)) - 1) % 256 = ((191 + blen n : Nat) : Int) by unfold wrap64; omega]
    have := put_l0_eq n (blen n) h1 hl ((191 + blen n : Nat) : Int) (blen n) 0 k (by omega) (by omega)
    simp only [List.range_zero, List.map_nil] at this
    rw [show (0 : Int) = ((0 : Nat) : Int) from rfl, this]
    unfold wput wlist
    rw [if_neg c]
end Go.Proofs.YtamalmopbncibaaDoor.Pure
