/- The two ways to reckon the sum of 24 digits come to the same: by half bytes with a table (the program's), digit by digit (the document's). Plain numbers. -/
import Derived.Test.YtamalmopbncibaaDoorHOn
import Derived.Test.YtamalmopbncibaaDoorPKx3
import Derived.Test.YtamalmopbncibaaDoorPKx4
namespace Go.Proofs.YtamalmopbncibaaDoor.Pure
open Go.RowKit Go.Proofs.YtamalmopbncibaaDoor.PK Go.Proofs.YtamalmopbncibaaDoorW.PrintWords Go.Proofs.YtamalmopbncibaaDoorW.PrintLast
set_option linter.unusedVariables false

/-- One digit. -/
def s1 (n : Nat) : Nat := if 16777216 ≤ 2 * n then (2 * n) ^^^ 25578747 else 2 * n
theorem s1_lt (n : Nat) (h : n < 16777216) : s1 n < 16777216 := by
  unfold s1
  by_cases c : 16777216 ≤ 2 * n
  · rw [if_pos c]
    have h1 : 2 * n = 2 ^ 24 * 1 + (2 * n - 16777216) := by omega
    have h2 : (25578747 : Nat) = 2 ^ 24 * 1 + 8801531 := by decide
    have hx : (2 * n) ^^^ 25578747 = (2 * n - 16777216) ^^^ 8801531 := by
      apply Nat.eq_of_testBit_eq
      intro j
      rw [Nat.testBit_xor, Nat.testBit_xor, h1, h2, Nat.testBit_two_pow_mul_add _ (by omega), Nat.testBit_two_pow_mul_add _ (by decide)]
      by_cases hj : j < 24
      · simp only [hj, if_true]
        rw [← h1]
      · simp only [hj, if_false]
        rw [Nat.testBit_lt_two_pow (x := 2 ^ 24 * 1 + (2 * n - 16777216) - 16777216) (i := j), Nat.testBit_lt_two_pow (x := 8801531) (i := j)]
        · simp
        · exact Nat.lt_of_lt_of_le (by decide) (Nat.pow_le_pow_right (n := 2) (by decide) (show 24 ≤ j by omega))
        · exact Nat.lt_of_lt_of_le (show _ < 2 ^ 24 by omega) (Nat.pow_le_pow_right (n := 2) (by decide) (show 24 ≤ j by omega))
    rw [hx]
    exact Nat.xor_lt_two_pow (n := 24) (by omega) (by decide)
  · rw [if_neg c]
    omega
theorem two_xor (a b : Nat) : 2 * (a ^^^ b) = (2 * a) ^^^ (2 * b) := by
  have h := Nat.shiftLeft_xor_distrib (a := a) (b := b) (i := 1)
  have h' : (a ^^^ b) * 2 = (a * 2) ^^^ (b * 2) := by simpa [Nat.shiftLeft_eq] using h
  rw [Nat.mul_comm 2 (a ^^^ b), Nat.mul_comm 2 a, Nat.mul_comm 2 b]
  exact h'
theorem top_bit (n : Nat) (h : n < 16777216) : (16777216 ≤ 2 * n) ↔ n.testBit 23 = true := by
  rw [Nat.testBit_eq_decide_div_mod_eq]
  simp
  omega
theorem s1_xor (a b : Nat) (ha : a < 16777216) (hb : b < 16777216) : s1 (a ^^^ b) = s1 a ^^^ s1 b := by
  have hx : a ^^^ b < 16777216 := Nat.xor_lt_two_pow (n := 24) ha hb
  unfold s1
  have ca := top_bit a ha
  have cb := top_bit b hb
  have cx := top_bit _ hx
  rw [Nat.testBit_xor] at cx
  rw [two_xor] at cx ⊢
  cases ea : a.testBit 23 <;> cases eb : b.testBit 23 <;> simp only [ea, eb] at ca cb cx
  · rw [if_neg (by simp at cx; omega), if_neg (by simp at ca; omega), if_neg (by simp at cb; omega)]
  · rw [if_pos (by simp at cx; omega), if_neg (by simp at ca; omega), if_pos (by simp at cb; omega)]
    rw [Nat.xor_assoc]
  · rw [if_pos (by simp at cx; omega), if_pos (by simp at ca; omega), if_neg (by simp at cb; omega)]
    rw [Nat.xor_assoc, Nat.xor_assoc, Nat.xor_comm (2 * b)]
  · rw [if_neg (by simp at cx; omega), if_pos (by simp at ca; omega), if_pos (by simp at cb; omega)]
    rw [Nat.xor_assoc, Nat.xor_comm (2 * b), ← Nat.xor_assoc 25578747, Nat.xor_self, Nat.zero_xor]
def s4 (n : Nat) : Nat := s1 (s1 (s1 (s1 n)))
theorem s4_lt (n : Nat) (h : n < 16777216) : s4 n < 16777216 := s1_lt _ (s1_lt _ (s1_lt _ (s1_lt _ h)))
theorem s4_xor (a b : Nat) (ha : a < 16777216) (hb : b < 16777216) : s4 (a ^^^ b) = s4 a ^^^ s4 b := by
  unfold s4
  have a1 := s1_lt a ha
  have b1 := s1_lt b hb
  have a2 := s1_lt _ a1
  have b2 := s1_lt _ b1
  rw [s1_xor a b ha hb, s1_xor _ _ a1 b1, s1_xor _ _ a2 b2, s1_xor _ _ (s1_lt _ a2) (s1_lt _ b2)]
theorem s1_small (n : Nat) (h : 2 * n < 16777216) : s1 n = 2 * n := by
  unfold s1
  rw [if_neg (by omega)]
theorem s4_small (n : Nat) (h : n < 1048576) : s4 n = 16 * n := by
  unfold s4
  rw [s1_small n (by omega), s1_small (2 * n) (by omega), s1_small (2 * (2 * n)) (by omega), s1_small (2 * (2 * (2 * n))) (by omega)]
  omega
theorem s4_top : ∀ i : Fin 16, ((s4 (i.1 * 1048576) : Nat) : Int) = crcTab[i.1]?.getD 0 := by decide +kernel
theorem split20 (n : Nat) : n = (n / 1048576 * 1048576) ^^^ (n % 1048576) := by
  have h : n = 2 ^ 20 * (n / 1048576) + n % 1048576 := by omega
  apply Nat.eq_of_testBit_eq
  intro j
  rw [Nat.testBit_xor]
  conv => lhs; rw [h]
  rw [Nat.testBit_two_pow_mul_add _ (by omega), show n / 1048576 * 1048576 = 2 ^ 20 * (n / 1048576) by omega, Nat.testBit_two_pow_mul]
  by_cases hj : j < 20
  · simp [hj, Nat.not_le.2 hj]
  · rw [if_neg hj, Nat.testBit_lt_two_pow (x := n % 1048576) (i := j)]
    · simp [Nat.le_of_not_lt hj]
    · exact Nat.lt_of_lt_of_le (show n % 1048576 < 2 ^ 20 by omega) (Nat.pow_le_pow_right (n := 2) (by decide) (Nat.le_of_not_lt hj))
theorem and_mask (x : Nat) (h : x < 4294967296) : Go.bits .and .u32 (x : Int) 16777215 = ((x % 16777216 : Nat) : Int) := by
  rw [show (16777215 : Int) = ((16777215 : Nat) : Int) from rfl, u32_and_nat x 16777215 h (by decide)]
  rw [show (16777215 : Nat) = 2 ^ 24 - 1 from rfl, Nat.and_two_pow_sub_one_eq_mod]
theorem chalf_eq (n : Nat) (h : n < 16777216) : chalf (n : Int) = ((s4 n : Nat) : Int) := by
  have hq : n / 1048576 < 16 := by omega
  have ht := s4_top ⟨n / 1048576, hq⟩
  simp only at ht
  unfold chalf
  rw [show ((n : Int) * 16) = ((n * 16 : Nat) : Int) by omega, and_mask _ (by omega)]
  rw [show (((n : Int) / 1048576).toNat) = n / 1048576 by omega, ← ht]
  rw [u32_xor_nat _ _ (by omega) (Nat.lt_of_lt_of_le (s4_lt _ (by omega)) (by decide))]
  congr 1
  have hs : s4 n = s4 ((n / 1048576 * 1048576) ^^^ (n % 1048576)) := by rw [← split20]
  rw [hs, s4_xor _ _ (by omega) (by omega), s4_small (n % 1048576) (by omega), Nat.xor_comm]
  congr 1
  omega
theorem cin_eq (n c : Nat) (h : n < 16777216) (hc : c < 256) : cin (n : Int) (c : Int) = ((n ^^^ (c * 65536) : Nat) : Int) := by
  unfold cin
  rw [show ((c : Int) * 65536) = ((c * 65536 : Nat) : Int) by omega, u32_xor_nat _ _ (by omega) (by omega)]
theorem cstep_eq (n c : Nat) (h : n < 16777216) (hc : c < 256) : cstep (n : Int) (c : Int) = ((s4 (s4 (n ^^^ (c * 65536))) : Nat) : Int) := by
  have hx : n ^^^ (c * 65536) < 16777216 := Nat.xor_lt_two_pow (n := 24) h (by omega)
  unfold cstep
  rw [cin_eq n c h hc, chalf_eq _ hx, chalf_eq _ (s4_lt _ hx)]
/-- The document's step of one byte. -/
def nstep (n c : Nat) : Nat := s4 (s4 (n ^^^ (c * 65536)))
theorem nstep_lt (n c : Nat) (h : n < 16777216) (hc : c < 256) : nstep n c < 16777216 :=
  s4_lt _ (s4_lt _ (Nat.xor_lt_two_pow (n := 24) h (by omega)))
def nfold (n : Nat) (l : List UInt8) : Nat := l.foldl (fun n c => nstep n c.toNat) n
theorem nfold_cons (n : Nat) (c : UInt8) (l : List UInt8) : nfold n (c :: l) = nfold (nstep n c.toNat) l := by unfold nfold; rw [List.foldl_cons]
theorem byte_lt (c : UInt8) : c.toNat < 256 := c.toNat_lt
theorem nfold_lt (l : List UInt8) : ∀ n, n < 16777216 → nfold n l < 16777216 := by
  induction l with
  | nil => exact fun n h => h
  | cons c l ih =>
    intro n h
    rw [nfold_cons]
    exact ih _ (nstep_lt _ _ h (byte_lt c))
theorem cfold_eq (l : List UInt8) : ∀ n : Nat, n < 16777216 → cfold (n : Int) l = ((nfold n l : Nat) : Int) := by
  induction l with
  | nil => exact fun n h => rfl
  | cons c l ih =>
    intro n h
    have e : cfold (n : Int) (c :: l) = cfold (cstep (n : Int) (c.toNat : Int)) l := rfl
    have e2 : cstep (n : Int) (c.toNat : Int) = ((nstep n c.toNat : Nat) : Int) := cstep_eq n c.toNat h (byte_lt c)
    rw [e, e2, nfold_cons]
    exact ih _ (nstep_lt _ _ h (byte_lt c))
/-- The sum of a text. -/
def sum24 (s : ByteArray) : Nat := nfold 11994318 s.data.toList
theorem sum24_lt (s : ByteArray) : sum24 s < 16777216 := nfold_lt _ _ (by decide)
theorem of_eq (s : ByteArray) (h : s.size ≤ 9223372036854775807) : crc_Of.f s = some (sum24 s : Int) := by
  unfold crc_Of.f crc_On.f
  rw [if_pos h, show Go.bits .and .u32 11994318 16777215 = ((11994318 : Nat) : Int) from by have h2 := and_mask 11994318 (by omega); simpa using h2, cfold_eq _ _ (by omega)]
  rfl

/-! The reference's loops. -/
theorem byte_at (s : ByteArray) (j : Nat) (h : j < s.size) : bt s (j : Int) = ((s.data.toList.getD j 0).toNat : Int) := by
  unfold bt
  rw [dif_pos (by simpa using h)]
  simp only [Int.toNat_natCast]
  rw [List.getD_eq_getElem?_getD, List.getElem?_eq_getElem (by simpa using h)]
  rfl
theorem l1_step (k : Nat) (s : ByteArray) (n : Nat) (i j : Int) (hn : n < 16777216) (h0 : 0 ≤ j) (h8 : j < 8) : clewref03_On.l1 (k + 1) s (n : Int) i j = clewref03_On.l1 k s ((s1 n : Nat) : Int) i (j + 1) := by
  have e1 : ((n : Int) * 2) % 4294967296 = ((2 * n : Nat) : Int) := by omega
  have e2 : wrap64 (j + 1) = j + 1 := by unfold wrap64; omega
  simp only [clewref03_On.l1]
  rw [if_pos h8, e1, e2]
  unfold s1
  by_cases c : 16777216 ≤ 2 * n
  · rw [if_pos (by omega), if_pos c, show (25578747 : Int) = ((25578747 : Nat) : Int) from rfl, u32_xor_nat _ _ (by omega) (by decide)]
  · rw [if_neg (by omega), if_neg c]
theorem l1_all (k : Nat) (s : ByteArray) (n : Nat) (i : Int) (hn : n < 16777216) : clewref03_On.l1 (k + 9) s (n : Int) i 0 = clewref03_On.l0 k s ((s4 (s4 n) : Nat) : Int) (wrap64 (i + 1)) := by
  have h1 := s1_lt n hn
  have h2 := s1_lt _ h1
  have h3 := s1_lt _ h2
  have h4 := s1_lt _ h3
  have h5 := s1_lt _ h4
  have h6 := s1_lt _ h5
  have h7 := s1_lt _ h6
  rw [l1_step _ _ _ _ _ hn (by omega) (by omega), l1_step _ _ _ _ _ h1 (by omega) (by omega), l1_step _ _ _ _ _ h2 (by omega) (by omega), l1_step _ _ _ _ _ h3 (by omega) (by omega),
    l1_step _ _ _ _ _ h4 (by omega) (by omega), l1_step _ _ _ _ _ h5 (by omega) (by omega), l1_step _ _ _ _ _ h6 (by omega) (by omega), l1_step _ _ _ _ _ h7 (by omega) (by omega)]
  simp only [clewref03_On.l1]
  rw [if_neg (by omega)]
  rfl
theorem on_ref (s : ByteArray) (hs : s.size ≤ 9223372036854775807) : ∀ (d j n k : Nat), n < 16777216 → j ≤ s.size → s.size - j = d → 10 * d < k →
    clewref03_On.l0 k s (n : Int) (j : Int) = some ((nfold n (s.data.toList.drop j) : Nat) : Int) := by
  intro d
  induction d with
  | zero =>
    intro j n k hn hj hd hk
    obtain ⟨k, rfl⟩ : ∃ m, k = m + 1 := ⟨k - 1, by omega⟩
    simp only [clewref03_On.l0]
    rw [if_neg (by omega), List.drop_eq_nil_of_le (by simp; omega)]
    rfl
  | succ d ih =>
    intro j n k hn hj hd hk
    obtain ⟨k, rfl⟩ : ∃ m, k = m + 10 := ⟨k - 10, by omega⟩
    have hlt : j < s.size := by omega
    have hl : j < s.data.toList.length := by simpa using hlt
    simp only [clewref03_On.l0]
    rw [if_pos (by omega), if_pos (by omega), byte_at s j hlt]
    have hb : (s.data.toList.getD j 0).toNat < 256 := (s.data.toList.getD j 0).toNat_lt
    rw [show ((((s.data.toList.getD j 0).toNat : Int) % 4294967296) * 65536) % 4294967296 = (((s.data.toList.getD j 0).toNat * 65536 : Nat) : Int) by omega]
    rw [u32_xor_nat _ _ (by omega) (by omega)]
    have hx : n ^^^ ((s.data.toList.getD j 0).toNat * 65536) < 16777216 := Nat.xor_lt_two_pow (n := 24) hn (by omega)
    rw [l1_all _ _ _ _ hx, show wrap64 ((j : Int) + 1) = ((j + 1 : Nat) : Int) by unfold wrap64; omega]
    rw [ih (j + 1) _ k (s4_lt _ (s4_lt _ hx)) (by omega) (by omega) (by omega)]
    have eg : s.data.toList.getD j 0 = s.data.toList[j] := by rw [List.getD_eq_getElem?_getD, List.getElem?_eq_getElem hl]; rfl
    rw [List.drop_eq_getElem_cons hl, nfold_cons, ← eg]
    rfl
theorem of_ref (s : ByteArray) (hs : s.size ≤ 9223372036854775807) : Ev (fun k => clewref03_Of.f k s) (sum24 s : Int) := by
  refine ⟨10 * s.size + 1, fun k hk => ?_⟩
  show clewref03_Of.f k s = _
  unfold clewref03_Of.f clewref03_On.f
  rw [show Int.tmod 11994318 16777216 = ((11994318 : Nat) : Int) by decide]
  rw [show (0 : Int) = ((0 : Nat) : Int) from rfl, on_ref s hs s.size 0 _ k (by decide) (by omega) (by omega) (by omega)]
  rfl
/-- A sum's three bytes. -/
def three (s : ByteArray) : ByteArray := strOfNums [((sum24 s : Int) / 65536) % 256, ((sum24 s : Int) / 256) % 256, (sum24 s : Int) % 256]
theorem three_size (s : ByteArray) : (three s).size = 3 := by unfold three; rw [strOfNums_size]; rfl
def seal24 (s : ByteArray) : ByteArray := s ++ three s
theorem seal_eq (s : ByteArray) (h : s.size ≤ 9223372036854775800) : crc_Seal.f s = some (seal24 s) := by
  unfold crc_Seal.f
  rw [of_eq s (by omega)]
  simp only [Option.bind_some]
  rw [if_pos (by rw [strOfNums_size]; simp; omega)]
  rfl
theorem seal_ref (s : ByteArray) (h : s.size ≤ 9223372036854775800) : Ev (fun k => clewref03_Seal.f k s) (seal24 s) := by
  unfold clewref03_Seal.f
  refine Ev.bind (of_ref s (by omega)) ?_
  have hl := sum24_lt s
  refine ⟨0, fun k _ => ?_⟩
  simp only [Option.bind_some]
  rw [if_pos (by rw [strOfNums_size]; simp; omega)]
  unfold seal24 three
  have e1 : Int.tdiv (sum24 s : Int) 65536 = (sum24 s : Int) / 65536 := Int.tdiv_eq_ediv_of_nonneg (by omega)
  have e2 : Int.tdiv (sum24 s : Int) 256 = (sum24 s : Int) / 256 := Int.tdiv_eq_ediv_of_nonneg (by omega)
  have e3 : Int.tmod (sum24 s : Int) 256 = (sum24 s : Int) % 256 := Int.tmod_eq_emod_of_nonneg (by omega)
  rw [e1, e2, e3]
  congr 4
  · omega
  · congr 1
    · omega
    · congr 1
      omega
/-- What Open tells: the text without its last three bytes, and what is wrong. -/
def open24 (s : ByteArray) : ByteArray × Int := if s.size < 3 then (⟨#[]⟩, 2) else if (seal24 (s.extract 0 (s.size - 3))).toList = s.toList then (s.extract 0 (s.size - 3), 0) else (⟨#[]⟩, 8)
theorem open_eq (s : ByteArray) (h : s.size ≤ 9223372036854775800) : crc_Open.f s = some (open24 s) := by
  unfold crc_Open.f open24
  by_cases c : s.size < 3
  · rw [if_pos (by unfold wrap64; omega), if_pos c]
  · have e : wrap64 ((s.size : Int) - 3) = ((s.size - 3 : Nat) : Int) := by unfold wrap64; omega
    rw [if_neg (by omega), if_neg c, e, if_pos (by omega), if_pos (by omega), Int.toNat_natCast, seal_eq _ (by simp; omega)]
    simp only [Option.bind_some]
    by_cases c2 : (seal24 (s.extract 0 (s.size - 3))).toList = s.toList
    · rw [if_pos c2, if_pos c2]
    · rw [if_neg c2, if_neg c2]
theorem open_ref (s : ByteArray) (h : s.size ≤ 9223372036854775800) : Ev (fun k => clewref03_Open.f k s) (open24 s) := by
  unfold clewref03_Open.f open24
  by_cases c : s.size < 3
  · refine ⟨0, fun k _ => ?_⟩
    show (if _ then _ else _) = _
    rw [if_pos (by omega), if_pos c]
  · have e : wrap64 ((s.size : Int) - 3) = ((s.size - 3 : Nat) : Int) := by unfold wrap64; omega
    refine Ev.congr (f := fun k => (clewref03_Seal.f k (s.extract 0 (s.size - 3))).bind fun t => if t.toList = s.toList then some (s.extract 0 (s.size - 3), 0) else some (⟨#[]⟩, 8)) (fun k => ?_) ?_
    · rw [if_neg (by omega), e, if_pos (by omega), if_pos (by omega), Int.toNat_natCast]
    · refine Ev.bind (seal_ref _ (by simp; omega)) ⟨0, fun k _ => ?_⟩
      rw [if_neg c]
      by_cases c2 : (seal24 (s.extract 0 (s.size - 3))).toList = s.toList
      · rw [if_pos c2, if_pos c2]
      · rw [if_neg c2, if_neg c2]
end Go.Proofs.YtamalmopbncibaaDoor.Pure
