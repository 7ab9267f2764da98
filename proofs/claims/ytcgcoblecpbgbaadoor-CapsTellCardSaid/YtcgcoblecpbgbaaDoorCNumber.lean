/- The document's number is strconv.Itoa. -/
import Derived.Test.YtcgcoblecpbgbaaDoorCShow
namespace Go.Proofs.YtcgcoblecpbgbaaDoor.CP
open Go.RowKit Go.Proofs.YtcgcoblecpbgbaaDoorW.PrintWords Go.Proofs.YtcgcoblecpbgbaaDoorW.PrintLast Go.Proofs.YtcgcoblecpbgbaaDoorW.PrintMore
set_option linter.unusedVariables false
def oneB (d : Nat) : ByteArray := ⟨#[UInt8.ofNat (48 + d)]⟩
theorem strOf_digit (d : Nat) (h : d < 10) : strOfNums [(wrap64 (48 + (d : Int))) % 256] = oneB d := by
  have key : ∀ d : Fin 10, strOfNums [(wrap64 (48 + (d.1 : Int))) % 256] = oneB d.1 := by decide +kernel
  exact key ⟨d, h⟩
theorem oneB_size (d : Nat) : (oneB d).size = 1 := rfl
theorem tdiv_nat (n : Int) : (Int.tdiv n 10).natAbs = n.natAbs / 10 := by
  rw [Int.natAbs_tdiv]; rfl
theorem tmod_nat (n : Int) : (Int.tmod n 10).natAbs = n.natAbs % 10 := by
  rw [Int.natAbs_tmod]; rfl
theorem j0_digit (k : Nat) (n : Int) (d : Nat) (hd : d < 10) :
    clewref10_number.j0 (k + 1) n (d : Int) = if wrap64 (Int.tdiv n 10) = 0 then (if n < 0 then some ((⟨#[45]⟩ : ByteArray) ++ oneB d) else some (oneB d)) else ((clewref10_number.f k (wrap64 (Int.tdiv n 10))).bind fun t => if t.size + 1 ≤ 9223372036854775807 then some (t ++ oneB d) else none) := by
  rw [clewref10_number.j0, Option.bind_some, strOf_digit d hd, oneB_size, if_pos (show 1 + 1 ≤ 9223372036854775807 by omega)]
theorem f_digit (k : Nat) (n : Int) (h1 : -9223372036854775808 ≤ n) (h2 : n ≤ 9223372036854775807) :
    clewref10_number.f (k + 1) n = clewref10_number.j0 k n ((n.natAbs % 10 : Nat) : Int) := by
  rw [clewref10_number.f]
  have h := tmod_nat n
  by_cases c : Int.tmod n 10 < 0
  · rw [if_pos c]
    congr 1
    unfold wrap64
    omega
  · rw [if_neg c]
    congr 1
    omega
theorem dec_digits (u : Nat) : Lib.decDigits u = if u < 10 then [UInt8.ofNat (48 + u)] else Lib.decDigits (u / 10) ++ [UInt8.ofNat (48 + u % 10)] := by
  rw [Lib.decDigits]
  split <;> rfl
theorem number_eq : ∀ (N : Nat) (n : Int), n.natAbs = N → -9223372036854775808 ≤ n → n ≤ 9223372036854775807 → ∃ k, clewref10_number.f k n = some (itoaS n) := by
  intro N
  induction N using Nat.strongRecOn with
  | _ N ih =>
    intro n hN h1 h2
    have hq := tdiv_nat n
    have hw : wrap64 (Int.tdiv n 10) = Int.tdiv n 10 := by unfold wrap64; omega
    have hs : n < 0 → Int.tdiv n 10 ≤ 0 := fun h => by
      have : Int.tdiv n 10 = -(Int.tdiv (-n) 10) := by rw [Int.neg_tdiv, Int.neg_neg]
      have : 0 ≤ Int.tdiv (-n) 10 := Int.tdiv_nonneg (by omega) (by omega)
      omega
    have hs2 : 0 ≤ n → 0 ≤ Int.tdiv n 10 := fun h => Int.tdiv_nonneg h (by omega)
    by_cases c : N < 10
    · refine ⟨2, ?_⟩
      rw [f_digit 1 n h1 h2, j0_digit 0 n _ (Nat.mod_lt _ (by omega)), hw, if_pos (by omega)]
      have hm : n.natAbs % 10 = n.natAbs := Nat.mod_eq_of_lt (by omega)
      by_cases cn : n < 0
      · rw [if_pos cn, hm]
        congr 1
        unfold itoaS Lib.itoa
        rw [if_pos cn, dec_digits, if_pos (by omega)]
        rfl
      · rw [if_neg cn, hm]
        congr 1
        unfold itoaS Lib.itoa
        rw [if_neg cn, dec_digits, if_pos (by omega)]
        rw [show n.toNat = n.natAbs by omega]
        rfl
    · obtain ⟨k, hk⟩ := ih (N / 10) (by omega) (Int.tdiv n 10) (by omega) (by omega) (by omega)
      refine ⟨k + 2, ?_⟩
      have hsz := itoaS_size (Int.tdiv n 10) ⟨by omega, by omega⟩
      rw [f_digit (k + 1) n h1 h2, j0_digit k n _ (Nat.mod_lt _ (by omega)), hw, if_neg (by omega), hk, Option.bind_some, if_pos (by omega)]
      congr 1
      apply ByteArray.ext
      rw [ByteArray.data_append]
      apply Array.toList_inj.1
      rw [Array.toList_append]
      show Lib.itoa (Int.tdiv n 10) ++ [UInt8.ofNat (48 + n.natAbs % 10)] = Lib.itoa n
      unfold Lib.itoa
      by_cases cn : n < 0
      · rw [if_pos cn, if_pos (by have := hs cn; omega), dec_digits n.natAbs, if_neg (by omega), hq]
        rfl
      · rw [if_neg cn, if_neg (by have := hs2 (by omega); omega), dec_digits n.toNat, if_neg (by omega), show (Int.tdiv n 10).toNat = n.toNat / 10 by have := hs2 (by omega); omega, show n.natAbs = n.toNat by omega]
theorem number_at (n : Int) (h : -9223372036854775808 ≤ n ∧ n ≤ 9223372036854775807) (w : World) :
    Calls Tryd.prog 25 #[.int .i64 n] w fun e w' => e = .returned (.string (itoaS n)) ∧ Below w.heap.size w w' := by
  obtain ⟨k, hk⟩ := number_eq n.natAbs n rfl h.1 h.2
  exact clewref10_number.calls k n _ w hk
end Go.Proofs.YtcgcoblecpbgbaaDoor.CP
