/- An argument of type [][3]uint8, opened. -/
import Derived.Test.YtcgcoblecpbgbaaDoorCThree
import Derived.Test.YtcgcoblecpbgbaaDoorCSets
import Derived.DataReads
namespace Go.Proofs.YtcgcoblecpbgbaaDoor.CO
open Go.ChangeShapes Go.WideShapes Go.ChangeAt Go.RowKit Go.Deep
open Go.Proofs.YtcgcoblecpbgbaaDoor.CP Go.Proofs.YtcgcoblecpbgbaaDoorW.PrintWords
set_option linter.unusedVariables false
variable {H : Type} {enc : TypeId × Value → H} {w : World} {base : Nat} {sp : Nat → Bool} {held : Bool}
theorem add_zero' (a : Addr) : a.add 0 = a := by
  unfold Addr.add
  split <;> simp_all
theorem add_pos' (a : Addr) (k : Nat) (h : k ≠ 0) : a.add k = ⟨a.block, a.off + k, none⟩ := by
  unfold Addr.add
  split <;> simp_all
theorem open_threes {d : DataW H} {ps : List MemPlace} {A : Option Addr} {n cap : Nat} (hd : DataW.Trod enc Tryd.prog w base sp held 48 (.slice A n cap) d ps) :
    n ≤ 9223372036854775807 ∧ ∃ x : Nat → Nat, Threes w A n x := by
  obtain ⟨fuel, hf⟩ := hd
  rcases DataW.trod_slice Tryd.underlying48 hf with ⟨hcs, _⟩ | ⟨a, len, c, elems, rest, m, _, hcs, _, hb, hl, hm, hel, hi, _⟩
  · simp only [Value.cells, List.cons.injEq, Value.slice.injEq, and_true] at hcs
    obtain ⟨rfl, rfl, rfl⟩ := hcs
    exact ⟨Nat.zero_le _, fun _ => 0, fun i hi => by omega⟩
  · simp only [Value.cells, List.cons.injEq, Value.slice.injEq, and_true] at hcs
    obtain ⟨rfl, rfl, rfl⟩ := hcs
    refine ⟨by unfold maxLen at hm; omega, ?_⟩
    have c49 : Tryd.prog.cellsOf 49 = 3 := by kernel_rfl
    have key : ∀ k, ∃ y : Nat, k < n * 3 → y < 256 ∧ w.cell? ((a.add (k / 3 * 3)).add (k % 3)) = some (.int .u8 (y : Int)) := by
      intro k
      by_cases hk : k < n * 3
      · have hkn : k / 3 < n := by omega
        have he := hi (k / 3) hkn
        obtain ⟨z, hz⟩ : ∃ z, elems[k / 3]? = some z := ⟨elems[k / 3], List.getElem?_eq_getElem (by omega)⟩
        rw [hz, c49] at he
        obtain ⟨cs, hcs, ht⟩ := Option.bind_eq_some_iff.1 he
        obtain ⟨y, hy, hw⟩ := ints_at (cs := cs) Tryd.underlying49 Tryd.underlying5 (by kernel_rfl) ht (k % 3) (Nat.mod_lt _ (by omega))
        obtain ⟨yn, rfl, hlt⟩ := u8_nat hw
        have h3 := World.cells?_some hcs
        exact ⟨yn, fun _ => ⟨hlt, (h3.2.2 _ (Nat.mod_lt _ (by omega))).trans hy⟩⟩
      · exact ⟨0, fun h => absurd h hk⟩
    obtain ⟨x, hx⟩ : ∃ x : Nat → Nat, ∀ k, k < n * 3 → x k < 256 ∧ w.cell? ((a.add (k / 3 * 3)).add (k % 3)) = some (.int .u8 (x k : Int)) :=
      ⟨fun k => Classical.choose (key k), fun k => Classical.choose_spec (key k)⟩
    refine ⟨x, fun i hi => ⟨a, rfl, ?_⟩⟩
    have g0 := hx (i * 3) (by omega)
    have g1 := hx (i * 3 + 1) (by omega)
    have g2 := hx (i * 3 + 2) (by omega)
    rw [show (i * 3) / 3 * 3 = i * 3 by omega, show (i * 3) % 3 = 0 by omega, add_zero'] at g0
    rw [show (i * 3 + 1) / 3 * 3 = i * 3 by omega, show (i * 3 + 1) % 3 = 1 by omega, add_pos' _ 1 (by omega)] at g1
    rw [show (i * 3 + 2) / 3 * 3 = i * 3 by omega, show (i * 3 + 2) % 3 = 2 by omega, add_pos' _ 2 (by omega)] at g2
    exact ⟨g0.2, g1.2, g2.2, g0.1, g1.1, g2.1⟩
end Go.Proofs.YtcgcoblecpbgbaaDoor.CO
