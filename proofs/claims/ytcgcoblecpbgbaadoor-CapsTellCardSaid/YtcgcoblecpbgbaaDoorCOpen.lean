/- The arguments opened: arrays of numbers, a Caps; what the laid variables say; the row's last step. -/
import Derived.Test.YtcgcoblecpbgbaaDoorCFixed
import Derived.Test.YtcgcoblecpbgbaaDoorCards
import Derived.Test.YtcgcoblecpbgbaaDoorTie
import Derived.OpenShut
import Derived.ChangeSame
import Derived.SizedLaws
import Derived.Deep.Slices
import Derived.Deep.Fields
import Derived.Deep.DeepHandedRow
import Derived.Lib.LaidTab
namespace Go.Proofs.YtcgcoblecpbgbaaDoor.CO
open Go.ChangeShapes Go.WideShapes Go.ChangeAt Go.RowKit Go.Deep
open Go.Proofs.YtcgcoblecpbgbaaDoor.CP Go.Proofs.YtcgcoblecpbgbaaDoorW.PrintWords
set_option linter.unusedVariables false
variable {H : Type} {enc : TypeId × Value → H} {w : World} {base : Nat} {sp : Nat → Bool} {held : Bool}

theorem list_of {α : Type} (f : α → Value) (Q : α → Prop) : ∀ (N : Nat) (cs : List Value), cs.length = N → (∀ j, j < N → ∃ x, cs[j]? = some (f x) ∧ Q x) → ∃ xs : List α, cs = xs.map f ∧ xs.length = N ∧ ∀ x ∈ xs, Q x
  | 0, cs, hl, _ => ⟨[], by rw [List.eq_nil_of_length_eq_zero hl]; rfl, rfl, fun x hx => by cases hx⟩
  | N + 1, [], hl, _ => by simp at hl
  | N + 1, c :: cs, hl, h => by
    obtain ⟨x, hx, hq⟩ := h 0 (by omega)
    obtain ⟨xs, e, hn, hQ⟩ := list_of f Q N cs (by simpa using hl) (fun j hj => by simpa using h (j + 1) (by omega))
    simp only [List.getElem?_cons_zero, Option.some.injEq] at hx
    refine ⟨x :: xs, by rw [e, hx]; rfl, by simp [hn], fun y hy => ?_⟩
    rcases List.mem_cons.1 hy with c | c
    · rw [c]; exact hq
    · exact hQ y c
theorem one_cell {cs : List Value} {j : Nat} {v : Value} (h : (cs.drop j).take 1 = [v]) : cs[j]? = some v := by
  have := congrArg (fun l => l[0]?) h
  simp only [List.getElem?_cons_zero] at this
  rw [List.getElem?_take, if_pos (by omega), List.getElem?_drop, Nat.add_zero] at this
  exact this
theorem ints_at {t e : TypeId} {k : IntKind} {n fuel : Nat} {cs : List Value} {x : DataW H × List MemPlace} (ht : Tryd.prog.underlying t = some (.array n e)) (he : Tryd.prog.underlying e = some (.int k)) (hc : Tryd.prog.cellsOf e = 1)
    (h : DataW.trod enc Tryd.prog w base sp held fuel t cs = some x) : ∀ j, j < n → ∃ y, cs[j]? = some (.int k y) ∧ (Lit.int k y).wf = true := by
  obtain ⟨xs, m, _, _, hl, hn, hi⟩ := DataW.trod_array ht h
  intro j hj
  have hr := hi j hj
  rw [hc, Nat.mul_one] at hr
  obtain ⟨z, hz⟩ : ∃ z, xs[j]? = some z := ⟨xs[j], List.getElem?_eq_getElem (by omega)⟩
  rw [hz] at hr
  obtain ⟨y, hy, _, hw⟩ := DataW.trod_int he hr
  exact ⟨y, one_cell hy, hw⟩
theorem bools_at {t e : TypeId} {n fuel : Nat} {cs : List Value} {x : DataW H × List MemPlace} (ht : Tryd.prog.underlying t = some (.array n e)) (he : Tryd.prog.underlying e = some .bool) (hc : Tryd.prog.cellsOf e = 1)
    (h : DataW.trod enc Tryd.prog w base sp held fuel t cs = some x) : ∀ j, j < n → ∃ y, cs[j]? = some (.bool y) ∧ True := by
  obtain ⟨xs, m, _, _, hl, hn, hi⟩ := DataW.trod_array ht h
  intro j hj
  have hr := hi j hj
  rw [hc, Nat.mul_one] at hr
  obtain ⟨z, hz⟩ : ∃ z, xs[j]? = some z := ⟨xs[j], List.getElem?_eq_getElem (by omega)⟩
  rw [hz] at hr
  obtain ⟨y, hy, _⟩ := DataW.trod_bool he hr
  exact ⟨y, one_cell hy, trivial⟩
theorem rows_at {t e e2 : TypeId} {k : IntKind} {n q fuel : Nat} {cs : List Value} {x : DataW H × List MemPlace} (ht : Tryd.prog.underlying t = some (.array n e)) (he : Tryd.prog.underlying e = some (.array q e2)) (hq : 0 < q) (hc : Tryd.prog.cellsOf e = q) (he2 : Tryd.prog.underlying e2 = some (.int k)) (hc2 : Tryd.prog.cellsOf e2 = 1)
    (h : DataW.trod enc Tryd.prog w base sp held fuel t cs = some x) : ∀ j, j < n * q → ∃ y, cs[j]? = some (.int k y) ∧ (Lit.int k y).wf = true := by
  obtain ⟨xs, m, _, _, hl, hn, hi⟩ := DataW.trod_array ht h
  intro j hj
  have hjn : j / q < n := Nat.div_lt_of_lt_mul (by rw [Nat.mul_comm]; exact hj)
  have hr := hi (j / q) hjn
  rw [hc] at hr
  obtain ⟨z, hz⟩ : ∃ z, xs[j / q]? = some z := ⟨xs[j / q], List.getElem?_eq_getElem (by omega)⟩
  rw [hz] at hr
  obtain ⟨y, hy, hw⟩ := ints_at he he2 hc2 hr (j % q) (Nat.mod_lt _ hq)
  refine ⟨y, ?_, hw⟩
  rw [List.getElem?_take, if_pos (Nat.mod_lt _ hq), List.getElem?_drop] at hy
  rw [show j / q * q + j % q = j by rw [Nat.mul_comm]; exact Nat.div_add_mod j q] at hy
  exact hy
theorem agg_of {r : Reach} {b0 n : Nat} {t e : TypeId} {v : Value} (ht : Tryd.prog.underlying t = some (.array n e)) (hval : Value.okWide Tryd.prog w r b0 t v) : ∃ cs : Array Value, v = .agg cs ∧ cs.size = Tryd.prog.cellsOf t := by
  simp only [Value.okWide, ht] at hval
  obtain ⟨cs, h1, h2, _⟩ := hval
  exact ⟨cs, h1, h2⟩
theorem own : ownKnob Tryd.prog.godebug = none := by kernel_rfl
theorem laidOut : laidOutB Tryd.prog = true := by kernel_rfl
theorem u8_nat {x : Int} (h : (Lit.int .u8 x).wf = true) : ∃ n : Nat, x = (n : Int) ∧ n < 256 := by
  simp only [Lit.wf, Bool.and_eq_true, decide_eq_true_eq] at h
  rw [show IntKind.u8.min = 0 from rfl, show IntKind.u8.max = 255 from rfl] at h
  exact ⟨x.toNat, by omega, by omega⟩
/-- An argument of type [2][3]uint8. -/
theorem open_six {r : Reach} {b0 : Nat} {v : Value} {d : DataW H} {ps : List MemPlace} (hval : Value.okWide Tryd.prog w r b0 52 v) (hd : DataW.Trod enc Tryd.prog w base sp held 52 v d ps) :
    ∃ x0 x1 x2 x3 x4 x5 : Nat, v = .agg #[.int .u8 x0, .int .u8 x1, .int .u8 x2, .int .u8 x3, .int .u8 x4, .int .u8 x5] ∧ x0 < 256 ∧ x1 < 256 ∧ x2 < 256 ∧ x3 < 256 ∧ x4 < 256 ∧ x5 < 256 := by
  obtain ⟨cs, rfl, hsz⟩ := agg_of Tryd.underlying52 hval
  obtain ⟨fuel, hf⟩ := hd
  have hc := rows_at (cs := cs.toList) Tryd.underlying52 Tryd.underlying49 (by omega) (by kernel_rfl) Tryd.underlying5 (by kernel_rfl) hf
  rw [show Tryd.prog.cellsOf 52 = 6 by kernel_rfl] at hsz
  obtain ⟨xs, e, hn, hw⟩ := list_of (Value.int .u8) _ 6 cs.toList (by simpa using hsz) hc
  match xs, hn with
  | [y0, y1, y2, y3, y4, y5], _ =>
    obtain ⟨x0, rfl, h0⟩ := u8_nat (hw y0 (by simp))
    obtain ⟨x1, rfl, h1⟩ := u8_nat (hw y1 (by simp))
    obtain ⟨x2, rfl, h2⟩ := u8_nat (hw y2 (by simp))
    obtain ⟨x3, rfl, h3⟩ := u8_nat (hw y3 (by simp))
    obtain ⟨x4, rfl, h4⟩ := u8_nat (hw y4 (by simp))
    obtain ⟨x5, rfl, h5⟩ := u8_nat (hw y5 (by simp))
    refine ⟨x0, x1, x2, x3, x4, x5, ?_, h0, h1, h2, h3, h4, h5⟩
    congr 1
    exact Array.toList_inj.1 (by rw [e]; rfl)
/-- What the rows' list gives: the table's cells. -/
theorem tab_of {W : World} (h : laidMetH Tryd.prog [("math/bits.deBruijn32tab", Rows.laid_math_bits_deBruijn32tab), ("math/bits.deBruijn64tab", Rows.laid_math_bits_deBruijn64tab), ("internal/strconv.uint64pow10", Rows.laid_internal_strconv_uint64pow10)] W) : TabW W := by
  have h2 : laidMet Tryd.prog [("math/bits.deBruijn32tab", Rows.laid_math_bits_deBruijn32tab), ("math/bits.deBruijn64tab", Rows.laid_math_bits_deBruijn64tab), ("internal/strconv.uint64pow10", Rows.laid_internal_strconv_uint64pow10)] W := h
  obtain ⟨ps, ⟨_, _, _, _, _, _, _, _, _, _, ⟨_, _, _, _, _, _, _, _, _, _, ⟨g, t, cs, fuel, p, q, hg, ht, hvar, hd, _, _⟩, _⟩, _⟩, _⟩ := h2
  obtain rfl := Option.some.inj ((show Tryd.prog.globalNamed "internal/strconv.uint64pow10" = some 0 by kernel_rfl).symm.trans hg)
  obtain rfl := Option.some.inj ((show (Tryd.prog.globals[0]?).map (·.type) = some 84 by kernel_rfl).symm.trans ht)
  unfold TabW Lib.TabIs
  have hd2 : DataW.trod (fun _ => ()) Tryd.prog W 0 (fun _ => true) false fuel 84 cs.toList = some (Lib.tabData .u64 Lib.pow10Tab, p) := by
    rw [hd]
    kernel_rfl
  rw [hvar, ← Lib.cells_of_tab Tryd.underlying84 Tryd.underlying74 (by kernel_rfl) (by kernel_rfl) hd2]

def tab32 : List Int := [0, 1, 28, 2, 29, 14, 24, 3, 30, 22, 20, 15, 25, 17, 4, 8, 31, 27, 13, 23, 21, 19, 16, 7, 26, 12, 18, 6, 11, 5, 10, 9]
def tab64 : List Int := [0, 1, 56, 2, 57, 49, 28, 3, 61, 58, 42, 50, 38, 29, 17, 4, 62, 47, 59, 36, 45, 43, 51, 22, 53, 39, 33, 30, 24, 18, 12, 5, 63, 55, 48, 27, 60, 41, 37, 16, 46, 35, 44, 21, 52, 32, 23, 11, 54, 26, 40, 15, 34, 20, 31, 10, 25, 14, 19, 9, 13, 8, 7, 6]
def setBlock (w : World) (g : Nat) (k : IntKind) (zs : List Int) : World :=
  { w with heap := w.heap.modify g fun
      | .cells _ t frozen => .cells (zs.map (Value.int k)).toArray t frozen
      | o => o }
/-- A world for the witness: the settled one, the tables holding what their initialisers lay. -/
noncomputable def laidWorld (os : Os) : World :=
  setBlock (setBlock (setBlock (World.holding Tryd.prog os ⟨#[], #[], []⟩) 0 .u64 Lib.pow10Tab) 2 .u8 tab32) 3 .u8 tab64
end Go.Proofs.YtcgcoblecpbgbaaDoor.CO
