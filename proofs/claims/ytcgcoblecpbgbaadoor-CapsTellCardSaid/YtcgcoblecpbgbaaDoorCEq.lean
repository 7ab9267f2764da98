/- Two Caps compared. -/
import Derived.Test.YtcgcoblecpbgbaaDoorCHas
import Derived.DeepKeys
namespace Go.Proofs.YtcgcoblecpbgbaaDoor.CP
open Go.RowKit Go.Proofs.YtcgcoblecpbgbaaDoorW.PrintWords Go.Proofs.YtcgcoblecpbgbaaDoorW.PrintLast Go.Proofs.YtcgcoblecpbgbaaDoorW.PrintMore
set_option linter.unusedVariables false
set_option linter.unusedSimpArgs false
theorem map_bool_inj : ∀ {l m : List Bool}, l.map Lit.bool = m.map Lit.bool ↔ l = m
  | [], [] => by simp
  | [], _ :: _ => by simp
  | _ :: _, [] => by simp
  | a :: l, b :: m => by simp [map_bool_inj (l := l) (m := m)]
theorem map_int_inj : ∀ {l m : List Int}, l.map (Lit.int .i64) = m.map (Lit.int .i64) ↔ l = m
  | [], [] => by simp
  | [], _ :: _ => by simp
  | _ :: _, [] => by simp
  | a :: l, b :: m => by simp [map_int_inj (l := l) (m := m)]
set_option maxRecDepth 100000 in
theorem eq_bools (w : World) (b0 b1 b2 b3 b4 b5 b6 b7 b8 c0 c1 c2 c3 c4 c5 c6 c7 c8 : Bool) : (Op.equalIn 10000 22 (.agg #[.bool b0, .bool b1, .bool b2, .bool b3, .bool b4, .bool b5, .bool b6, .bool b7, .bool b8]) (.agg #[.bool c0, .bool c1, .bool c2, .bool c3, .bool c4, .bool c5, .bool c6, .bool c7, .bool c8])).run Tryd.prog w = .ok (decide ([b0, b1, b2, b3, b4, b5, b6, b7, b8] = [c0, c1, c2, c3, c4, c5, c6, c7, c8])) w := by
  obtain ⟨r, hr, hiff⟩ := run_equalIn_deep (P := Tryd.prog) 9998 2 22 (by kernel_rfl) w 4 4 (.agg #[.bool b0, .bool b1, .bool b2, .bool b3, .bool b4, .bool b5, .bool b6, .bool b7, .bool b8]) (.agg #[.bool c0, .bool c1, .bool c2, .bool c3, .bool c4, .bool c5, .bool c6, .bool c7, .bool c8]) ([b0, b1, b2, b3, b4, b5, b6, b7, b8].map Lit.bool) ([c0, c1, c2, c3, c4, c5, c6, c7, c8].map Lit.bool) (by kernel_rfl) (by kernel_rfl) (by kernel_rfl) (by kernel_rfl)
  rw [show (10000 : Nat) = 9998 + 2 from rfl, hr]
  rw [map_bool_inj] at hiff
  congr 1
  rw [Bool.eq_iff_iff, hiff]
  simp
theorem lits_int (d : Nat) (x : Int) (h : (Lit.int .i64 x).wf = true) : Tryd.prog.keyLits (d + 1) 3 [.int .i64 x] = some [.int .i64 x] := by
  unfold Program.keyLits
  rw [Tryd.underlying3]
  simp [h]
theorem range2 : List.range 2 = [0, 1] := by decide
theorem range9 : List.range 9 = [0, 1, 2, 3, 4, 5, 6, 7, 8] := by decide
theorem cells3 : Tryd.prog.cellsOf 3 = 1 := by kernel_rfl
theorem cells4 : Tryd.prog.cellsOf 4 = 1 := by kernel_rfl
theorem cells22 : Tryd.prog.cellsOf 22 = 9 := by kernel_rfl
theorem cells23 : Tryd.prog.cellsOf 23 = 2 := by kernel_rfl
theorem cells24 : Tryd.prog.cellsOf 24 = 18 := by kernel_rfl
theorem cells26 : Tryd.prog.cellsOf 26 = 27 := by kernel_rfl
theorem cells28 : Tryd.prog.cellsOf 28 = 27 := by kernel_rfl
theorem lits_two (d : Nat) (x y : Int) (hx : (Lit.int .i64 x).wf = true) (hy : (Lit.int .i64 y).wf = true) : Tryd.prog.keyLits (d + 2) 23 [.int .i64 x, .int .i64 y] = some [.int .i64 x, .int .i64 y] := by
  rw [Program.keyLits.eq_def]
  simp only [Tryd.underlying23]
  simp [range2, cells3, cells23, lits_int d x hx, lits_int d y hy, List.mapM_cons]
theorem lits_at (d : Nat) (p0 p1 p2 p3 p4 p5 p6 p7 p8 p9 p10 p11 p12 p13 p14 p15 p16 p17 : Int) (h : ∀ x ∈ [p0, p1, p2, p3, p4, p5, p6, p7, p8, p9, p10, p11, p12, p13, p14, p15, p16, p17], (Lit.int .i64 x).wf = true) : Tryd.prog.keyLits (d + 3) 24 [.int .i64 p0, .int .i64 p1, .int .i64 p2, .int .i64 p3, .int .i64 p4, .int .i64 p5, .int .i64 p6, .int .i64 p7, .int .i64 p8, .int .i64 p9, .int .i64 p10, .int .i64 p11, .int .i64 p12, .int .i64 p13, .int .i64 p14, .int .i64 p15, .int .i64 p16, .int .i64 p17] = some [.int .i64 p0, .int .i64 p1, .int .i64 p2, .int .i64 p3, .int .i64 p4, .int .i64 p5, .int .i64 p6, .int .i64 p7, .int .i64 p8, .int .i64 p9, .int .i64 p10, .int .i64 p11, .int .i64 p12, .int .i64 p13, .int .i64 p14, .int .i64 p15, .int .i64 p16, .int .i64 p17] := by
  simp only [List.forall_mem_cons] at h
  obtain ⟨h0, h1, h2, h3, h4, h5, h6, h7, h8, h9, h10, h11, h12, h13, h14, h15, h16, h17, _⟩ := h
  rw [Program.keyLits.eq_def]
  simp only [Tryd.underlying24]
  simp [range9, cells23, cells24, lits_two, h0, h1, h2, h3, h4, h5, h6, h7, h8, h9, h10, h11, h12, h13, h14, h15, h16, h17]
theorem lits_bool (d : Nat) (x : Bool) : Tryd.prog.keyLits (d + 1) 4 [.bool x] = some [.bool x] := by
  rw [Program.keyLits.eq_def]
  simp only [Tryd.underlying4]
theorem lits_is (d : Nat) (b0 b1 b2 b3 b4 b5 b6 b7 b8 : Bool) : Tryd.prog.keyLits (d + 2) 22 [.bool b0, .bool b1, .bool b2, .bool b3, .bool b4, .bool b5, .bool b6, .bool b7, .bool b8] = some [.bool b0, .bool b1, .bool b2, .bool b3, .bool b4, .bool b5, .bool b6, .bool b7, .bool b8] := by
  rw [Program.keyLits.eq_def]
  simp only [Tryd.underlying22]
  simp [range9, cells4, cells22, lits_bool]
theorem lits_caps (d : Nat) (t : TypeId) (ht : t = 26 ∨ t = 28) (b0 b1 b2 b3 b4 b5 b6 b7 b8 : Bool) (p0 p1 p2 p3 p4 p5 p6 p7 p8 p9 p10 p11 p12 p13 p14 p15 p16 p17 : Int) (h : ∀ x ∈ [p0, p1, p2, p3, p4, p5, p6, p7, p8, p9, p10, p11, p12, p13, p14, p15, p16, p17], (Lit.int .i64 x).wf = true) : Tryd.prog.keyLits (d + 4) t [.bool b0, .bool b1, .bool b2, .bool b3, .bool b4, .bool b5, .bool b6, .bool b7, .bool b8, .int .i64 p0, .int .i64 p1, .int .i64 p2, .int .i64 p3, .int .i64 p4, .int .i64 p5, .int .i64 p6, .int .i64 p7, .int .i64 p8, .int .i64 p9, .int .i64 p10, .int .i64 p11, .int .i64 p12, .int .i64 p13, .int .i64 p14, .int .i64 p15, .int .i64 p16, .int .i64 p17] = some [.bool b0, .bool b1, .bool b2, .bool b3, .bool b4, .bool b5, .bool b6, .bool b7, .bool b8, .int .i64 p0, .int .i64 p1, .int .i64 p2, .int .i64 p3, .int .i64 p4, .int .i64 p5, .int .i64 p6, .int .i64 p7, .int .i64 p8, .int .i64 p9, .int .i64 p10, .int .i64 p11, .int .i64 p12, .int .i64 p13, .int .i64 p14, .int .i64 p15, .int .i64 p16, .int .i64 p17] := by
  have h24 := lits_at d p0 p1 p2 p3 p4 p5 p6 p7 p8 p9 p10 p11 p12 p13 p14 p15 p16 p17 h
  have h22 := lits_is (d + 1) b0 b1 b2 b3 b4 b5 b6 b7 b8
  rcases ht with rfl | rfl
  · rw [Program.keyLits.eq_def]
    simp only [Tryd.underlying26]
    simp [cells22, cells24, cells26, h22, h24]
  · rw [Program.keyLits.eq_def]
    simp only [Tryd.underlying28]
    simp [cells22, cells24, cells28, h22, h24]
set_option maxRecDepth 100000 in
theorem eq_caps (w : World) (t : TypeId) (ht : t = 26 ∨ t = 28) (b0 b1 b2 b3 b4 b5 b6 b7 b8 c0 c1 c2 c3 c4 c5 c6 c7 c8 : Bool) (p0 p1 p2 p3 p4 p5 p6 p7 p8 p9 p10 p11 p12 p13 p14 p15 p16 p17 q0 q1 q2 q3 q4 q5 q6 q7 q8 q9 q10 q11 q12 q13 q14 q15 q16 q17 : Int) (h : ∀ x ∈ [p0, p1, p2, p3, p4, p5, p6, p7, p8, p9, p10, p11, p12, p13, p14, p15, p16, p17], (Lit.int .i64 x).wf = true) (h' : ∀ x ∈ [q0, q1, q2, q3, q4, q5, q6, q7, q8, q9, q10, q11, q12, q13, q14, q15, q16, q17], (Lit.int .i64 x).wf = true) :
    (Op.equalIn 10000 t (.agg #[.bool b0, .bool b1, .bool b2, .bool b3, .bool b4, .bool b5, .bool b6, .bool b7, .bool b8, .int .i64 p0, .int .i64 p1, .int .i64 p2, .int .i64 p3, .int .i64 p4, .int .i64 p5, .int .i64 p6, .int .i64 p7, .int .i64 p8, .int .i64 p9, .int .i64 p10, .int .i64 p11, .int .i64 p12, .int .i64 p13, .int .i64 p14, .int .i64 p15, .int .i64 p16, .int .i64 p17]) (.agg #[.bool c0, .bool c1, .bool c2, .bool c3, .bool c4, .bool c5, .bool c6, .bool c7, .bool c8, .int .i64 q0, .int .i64 q1, .int .i64 q2, .int .i64 q3, .int .i64 q4, .int .i64 q5, .int .i64 q6, .int .i64 q7, .int .i64 q8, .int .i64 q9, .int .i64 q10, .int .i64 q11, .int .i64 q12, .int .i64 q13, .int .i64 q14, .int .i64 q15, .int .i64 q16, .int .i64 q17])).run Tryd.prog w = .ok (decide ([b0, b1, b2, b3, b4, b5, b6, b7, b8] = [c0, c1, c2, c3, c4, c5, c6, c7, c8] ∧ [p0, p1, p2, p3, p4, p5, p6, p7, p8, p9, p10, p11, p12, p13, p14, p15, p16, p17] = [q0, q1, q2, q3, q4, q5, q6, q7, q8, q9, q10, q11, q12, q13, q14, q15, q16, q17])) w := by
  have key : Tryd.prog.keyTypeAt 4 t = true := by rcases ht with rfl | rfl <;> kernel_rfl
  obtain ⟨r, hr, hiff⟩ := run_equalIn_deep (P := Tryd.prog) 9996 4 t key w 6 6 (.agg #[.bool b0, .bool b1, .bool b2, .bool b3, .bool b4, .bool b5, .bool b6, .bool b7, .bool b8, .int .i64 p0, .int .i64 p1, .int .i64 p2, .int .i64 p3, .int .i64 p4, .int .i64 p5, .int .i64 p6, .int .i64 p7, .int .i64 p8, .int .i64 p9, .int .i64 p10, .int .i64 p11, .int .i64 p12, .int .i64 p13, .int .i64 p14, .int .i64 p15, .int .i64 p16, .int .i64 p17]) (.agg #[.bool c0, .bool c1, .bool c2, .bool c3, .bool c4, .bool c5, .bool c6, .bool c7, .bool c8, .int .i64 q0, .int .i64 q1, .int .i64 q2, .int .i64 q3, .int .i64 q4, .int .i64 q5, .int .i64 q6, .int .i64 q7, .int .i64 q8, .int .i64 q9, .int .i64 q10, .int .i64 q11, .int .i64 q12, .int .i64 q13, .int .i64 q14, .int .i64 q15, .int .i64 q16, .int .i64 q17]) _ _ (by rcases ht with rfl | rfl <;> kernel_rfl) (by rcases ht with rfl | rfl <;> kernel_rfl) (lits_caps 2 t ht b0 b1 b2 b3 b4 b5 b6 b7 b8 p0 p1 p2 p3 p4 p5 p6 p7 p8 p9 p10 p11 p12 p13 p14 p15 p16 p17 h) (lits_caps 2 t ht c0 c1 c2 c3 c4 c5 c6 c7 c8 q0 q1 q2 q3 q4 q5 q6 q7 q8 q9 q10 q11 q12 q13 q14 q15 q16 q17 h')
  rw [show (10000 : Nat) = 9996 + 4 from rfl, hr]
  congr 1
  rw [Bool.eq_iff_iff, hiff]
  simp [and_assoc]
end Go.Proofs.YtcgcoblecpbgbaaDoor.CP
