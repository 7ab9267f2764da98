/- Two texts but for the case of letters. Plain numbers. -/
import Derived.Test.YtcgcoblecpbgbaaDoorCPx1
namespace Go.Proofs.YtcgcoblecpbgbaaDoor.CP
open Go.RowKit Go.Proofs.YtcgcoblecpbgbaaDoorW.PrintWords Go.Proofs.YtcgcoblecpbgbaaDoorW.PrintLast Go.Proofs.YtcgcoblecpbgbaaDoorW.PrintMore
set_option linter.unusedVariables false
def byt (s : ByteArray) (i : Nat) : Nat := (s.data.toList.getD i 0).toNat
theorem byt_lt (s : ByteArray) (i : Nat) : byt s i < 256 := UInt8.toNat_lt _
theorem bt_byt (s : ByteArray) (j : Nat) (h : j < s.size) : bt s (j : Int) = (byt s j : Int) := by
  unfold bt byt
  rw [dif_pos (by simpa using h)]
  simp only [Int.toNat_natCast]
  have hl : j < s.data.toList.length := by simpa using h
  rw [List.getD_eq_getElem?_getD, List.getElem?_eq_getElem hl]
  rfl
def lowB (c : Nat) : Nat := if 65 ≤ c ∧ c ≤ 90 then c + 32 else c
theorem lower_eq (c : Nat) : caps_lower.f (c : Int) = some (lowB c : Int) := by
  unfold caps_lower.f lowB
  by_cases c1 : 65 ≤ c
  · rw [if_pos (by omega)]
    by_cases c2 : c ≤ 90
    · rw [if_pos (by omega), if_pos ⟨c1, c2⟩]
      congr 1
      omega
    · rw [if_neg (by omega), if_neg (by omega)]
  · rw [if_neg (by omega), if_neg (by omega)]
theorem lower_ref (c : Nat) : clewref10_lower.f (c : Int) = some (lowB c : Int) := lower_eq c
/-- From place i on they are the same but for the case of letters. -/
def sameFrom (a b : ByteArray) (i : Nat) : Nat → Bool
  | 0 => true
  | d + 1 => (lowB (byt a i) == lowB (byt b i)) && sameFrom a b (i + 1) d
def sameB (a b : ByteArray) : Bool := sameFrom a b 0 a.size
theorem same_l0 (a b : ByteArray) (h : a.size = b.size) (hs : a.size ≤ 1099511627776) : ∀ (d i k : Nat), i + d = a.size → d < k → caps_same.l0 k a b (a.size : Int) (i : Int) = some (sameFrom a b i d) := by
  intro d
  induction d with
  | zero =>
    intro i k hi hk
    obtain ⟨k', rfl⟩ : ∃ k', k = k' + 1 := ⟨k - 1, by omega⟩
    rw [caps_same.l0, if_neg (by omega)]
    rfl
  | succ d ih =>
    intro i k hi hk
    obtain ⟨k', rfl⟩ : ∃ k', k = k' + 1 := ⟨k - 1, by omega⟩
    rw [caps_same.l0, if_pos (by omega), if_pos (by omega), if_pos (by omega), bt_byt a i (by omega), lower_eq, Option.bind_some, if_pos (by omega), bt_byt b i (by omega), lower_eq, Option.bind_some]
    by_cases c : lowB (byt a i) = lowB (byt b i)
    · rw [if_pos (by rw [c]), show wrap64 ((i : Int) + 1) = ((i + 1 : Nat) : Int) by unfold wrap64; omega, ih (i + 1) k' (by omega) (by omega)]
      rw [sameFrom, beq_iff_eq.2 c, Bool.true_and]
    · rw [if_neg (by omega), sameFrom, beq_eq_false_iff_ne.2 c, Bool.false_and]
theorem same_eq (a b : ByteArray) (h : a.size = b.size) (hs : a.size ≤ 1099511627776) : caps_same.f (a.size + 1) a b = some (sameB a b) := by
  unfold caps_same.f sameB
  exact same_l0 a b h hs a.size 0 (a.size + 1) (by omega) (by omega)
end Go.Proofs.YtcgcoblecpbgbaaDoor.CP
