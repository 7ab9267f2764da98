/- A Caps by value: out of a block, as a whole and in parts; compared. -/
import Derived.Test.YtcgcoblecpbgbaaDoorCEq
import Derived.Deep.MidRow
import Derived.Deep.WholeRow
namespace Go.Proofs.YtcgcoblecpbgbaaDoor.CP
open Go.RowKit Go.Proofs.YtcgcoblecpbgbaaDoorW.PrintWords Go.Proofs.YtcgcoblecpbgbaaDoorW.PrintLast Go.Proofs.YtcgcoblecpbgbaaDoorW.PrintMore
set_option linter.unusedVariables false
set_option linter.unusedSimpArgs false
theorem size26 : (Tryd.prog.info? 26).map (·.size) = some 27 := by kernel_rfl
theorem size28 : (Tryd.prog.info? 28).map (·.size) = some 27 := by kernel_rfl
theorem size22 : (Tryd.prog.info? 22).map (·.size) = some 9 := by kernel_rfl
theorem size23 : (Tryd.prog.info? 23).map (·.size) = some 2 := by kernel_rfl
/-- The cells that an address leads to. -/
def At (w : World) (g : Nat) (cs : List Value) : Prop := ∀ j v, cs[j]? = some v → w.cell? ⟨g, j, none⟩ = some v
theorem at_new (w : World) (t : TypeId) (cs : List Value) : At (w.alloc (.cells cs.toArray t)) w.heap.size cs := by
  intro j v h
  rw [cell_of_row _ _ j cs.toArray t (0, 0) (heap_alloc_last w _)]
  simpa using h
theorem At.below {B : Nat} {w w' : World} {g : Nat} {cs : List Value} (h : At w g cs) (hb : Below B w w') (hg : g < B) : At w' g cs := by
  intro j v hj
  have := h j v hj
  unfold World.cell? at this ⊢
  rw [hb.block g hg]
  exact this
theorem At.range {w : World} {g : Nat} {cs : List Value} (h : At w g cs) : w.rangeAt g 0 cs := fun j v hj => by rw [Nat.zero_add]; exact h j v hj
theorem load_caps {w : World} {g : Nat} {b : List Bool} {p : List Int} (h : At w g (capsC b p)) (hb : b.length = 9) (hp : p.length = 18) :
    (loadVar 26 ⟨g, 0, none⟩).run Tryd.prog w = .ok (.agg (capsC b p).toArray) w :=
  run_loadVar_mid w g 0 26 _ _ h.range Tryd.underlying26 rfl (by rw [size26, capsC_length, hb, hp])
theorem load_caps8 {w : World} {g : Nat} {b : List Bool} {p : List Int} (h : At w g (capsC b p)) (hb : b.length = 9) (hp : p.length = 18) :
    (loadVar 28 ⟨g, 0, none⟩).run Tryd.prog w = .ok (.agg (capsC b p).toArray) w :=
  run_loadVar_mid w g 0 28 _ _ h.range Tryd.underlying28 rfl (by rw [size28, capsC_length, hb, hp])
theorem At.is {w : World} {g : Nat} {b : List Bool} {p : List Int} (h : At w g (capsC b p)) : w.rangeAt g 0 (b.map Value.bool) := fun j v hj => by
  rw [Nat.zero_add]
  refine h j v ?_
  unfold capsC
  rw [List.getElem?_append_left (List.getElem?_eq_some_iff.1 hj).1]
  exact hj
theorem load_is {w : World} {g : Nat} {b : List Bool} {p : List Int} (h : At w g (capsC b p)) (hb : b.length = 9) :
    (loadVar 22 ⟨g, 0, none⟩).run Tryd.prog w = .ok (.agg (b.map Value.bool).toArray) w :=
  run_loadVar_mid w g 0 22 _ _ h.is Tryd.underlying22 rfl (by rw [size22, List.length_map, hb])
theorem load_at {w : World} {g : Nat} {b : List Bool} {p : List Int} (h : At w g (capsC b p)) (hb : b.length = 9) (i : Nat) (hi : i < p.length) :
    w.cell? ⟨g, 9 + i, none⟩ = some (.int .i64 (p.getD i 0)) := by
  have := h (b.length + i) _ (capsC_int b p i hi)
  rw [hb] at this
  exact this
theorem load_bool {w : World} {g : Nat} {b : List Bool} {p : List Int} (h : At w g (capsC b p)) (i : Nat) (hi : i < b.length) :
    w.cell? ⟨g, i, none⟩ = some (.bool (b.getD i false)) := h i _ (capsC_bool b p i hi)
theorem nine {α : Type} {l : List α} (h : l.length = 9) : ∃ b0 b1 b2 b3 b4 b5 b6 b7 b8, l = [b0, b1, b2, b3, b4, b5, b6, b7, b8] := by
  match l, h with
  | [b0, b1, b2, b3, b4, b5, b6, b7, b8], _ => exact ⟨b0, b1, b2, b3, b4, b5, b6, b7, b8, rfl⟩
theorem eighteen {α : Type} {l : List α} (h : l.length = 18) : ∃ p0 p1 p2 p3 p4 p5 p6 p7 p8 p9 p10 p11 p12 p13 p14 p15 p16 p17, l = [p0, p1, p2, p3, p4, p5, p6, p7, p8, p9, p10, p11, p12, p13, p14, p15, p16, p17] := by
  match l, h with
  | [p0, p1, p2, p3, p4, p5, p6, p7, p8, p9, p10, p11, p12, p13, p14, p15, p16, p17], _ => exact ⟨p0, p1, p2, p3, p4, p5, p6, p7, p8, p9, p10, p11, p12, p13, p14, p15, p16, p17, rfl⟩
theorem eq_is (w : World) (b c : List Bool) (hb : b.length = 9) (hc : c.length = 9) : (Op.equalIn 10000 22 (.agg (b.map Value.bool).toArray) (.agg (c.map Value.bool).toArray)).run Tryd.prog w = .ok (decide (b = c)) w := by
  obtain ⟨b0, b1, b2, b3, b4, b5, b6, b7, b8, rfl⟩ := nine hb
  obtain ⟨c0, c1, c2, c3, c4, c5, c6, c7, c8, rfl⟩ := nine hc
  exact eq_bools w b0 b1 b2 b3 b4 b5 b6 b7 b8 c0 c1 c2 c3 c4 c5 c6 c7 c8
theorem eq_val (w : World) (t : TypeId) (ht : t = 26 ∨ t = 28) (b c : List Bool) (p q : List Int) (hb : b.length = 9) (hc : c.length = 9) (hp : p.length = 18) (hq : q.length = 18) (h : ∀ x ∈ p, (Lit.int .i64 x).wf = true) (h' : ∀ x ∈ q, (Lit.int .i64 x).wf = true) :
    (Op.equalIn 10000 t (.agg (capsC b p).toArray) (.agg (capsC c q).toArray)).run Tryd.prog w = .ok (decide (b = c ∧ p = q)) w := by
  obtain ⟨b0, b1, b2, b3, b4, b5, b6, b7, b8, rfl⟩ := nine hb
  obtain ⟨c0, c1, c2, c3, c4, c5, c6, c7, c8, rfl⟩ := nine hc
  obtain ⟨p0, p1, p2, p3, p4, p5, p6, p7, p8, p9, p10, p11, p12, p13, p14, p15, p16, p17, rfl⟩ := eighteen hp
  obtain ⟨q0, q1, q2, q3, q4, q5, q6, q7, q8, q9, q10, q11, q12, q13, q14, q15, q16, q17, rfl⟩ := eighteen hq
  exact eq_caps w t ht b0 b1 b2 b3 b4 b5 b6 b7 b8 c0 c1 c2 c3 c4 c5 c6 c7 c8 p0 p1 p2 p3 p4 p5 p6 p7 p8 p9 p10 p11 p12 p13 p14 p15 p16 p17 q0 q1 q2 q3 q4 q5 q6 q7 q8 q9 q10 q11 q12 q13 q14 q15 q16 q17 h h'
theorem load3 {w : World} {a : Addr} {v : Value} (h : w.cell? a = some v) : (loadVar 3 a).run Tryd.prog w = .ok v w := by simp [loadVar, h]
theorem load4 {w : World} {a : Addr} {v : Value} (h : w.cell? a = some v) : (loadVar 4 a).run Tryd.prog w = .ok v w := by simp [loadVar, h]
end Go.Proofs.YtcgcoblecpbgbaaDoor.CP
