/-
  PackShort: the walk. Regions 0 to 4 and 9 to 12 are as the kit's print prints them (over a text in which the conversion's region was a move);
  regions 5 to 8 (the text's bytes, one of them changed, the text of them) are walked by hand. Only the ways that the law needs are told.
-/
import Derived.Test.YtamalmopbncibaaDoorPKx0
import Derived.Test.YtamalmopbncibaaDoorPKx3
import Derived.Test.YtamalmopbncibaaDoorPKx4
import Derived.Test.YtamalmopbncibaaDoorPKx9
import Derived.Test.YtamalmopbncibaaDoorHEncode
import Derived.Lib.ConvBytes
import Derived.Lib.AtoiErrMem
import Derived.Laws.BytesArg
namespace Go.Proofs.YtamalmopbncibaaDoor.PK
open Go.RowKit Go.Proofs.YtamalmopbncibaaDoorW.PrintWords Go.Proofs.YtamalmopbncibaaDoorW.PrintLast Go.Proofs.YtamalmopbncibaaDoorW.PrintMore
attribute [local go_sem] max2_int min2_int max_two min_two max_three min_three max_four min_four
set_option linter.unusedVariables false
set_option linter.unusedSimpArgs false
/-- The text with byte i changed: by is the number of the change. -/
theorem bytes_below {b : Nat} {w W : World} (h : Below b w W) (s : ByteArray) (hs : b ≤ W.heap.size) : Below b w (Lib.bytesWorld W 5 s) := h.trans ((Lib.bytesWorld_below W 5 s).mono hs)
theorem bytes_cell (w : World) (s : ByteArray) (j : Nat) (hj : j < s.size) : (Lib.bytesWorld w 5 s).cell? ⟨w.heap.size, j, none⟩ = some (.int .u8 ((bytesOf s).getD j 0)) := by
  rw [Lib.bytesWorld_cell w 5 s j hj]
  unfold bytesOf
  rw [List.getD_eq_getElem?_getD, List.getD_eq_getElem?_getD, List.getElem?_map]
  have : j < s.data.toList.length := by simpa using hj
  rw [List.getElem?_eq_getElem this]
  rfl
theorem bytes_free (w : World) (s : ByteArray) (j : Nat) (hj : j < s.size) : (Lib.bytesWorld w 5 s).frozen? ⟨w.heap.size, j, none⟩ = false := by
  have : s.size ≤ (Lib.bytesCells w 5 s).size := by simp [Lib.bytesCells]
  simp [World.frozen?, Lib.bytesWorld_at_new]
  omega
theorem tmod_lt (a : Int) (n : Nat) (h : 0 < n) : Int.tmod (wrap64 a) (n : Int) < (n : Int) := by
  exact Int.tmod_lt_of_pos _ (by omega)
def flipL (s : ByteArray) (i : Nat) (a2 : Int) : List Int := (bytesOf s).set i (bits BinOp.xor IntKind.u8 ((bytesOf s)[i]?.getD 0) ((1 + a2.tmod 255) % 256))
def flipS (s : ByteArray) (i : Nat) (a2 : Int) : ByteArray := strOfNums (flipL s i a2)
theorem flip_length (s : ByteArray) (i : Nat) (a2 : Int) : (flipL s i a2).length = s.size := by
  unfold flipL bytesOf
  simp
theorem flip_cell {W : World} {g : Nat} {s : ByteArray} {i : Nat} {a2 : Int} (hW : ∀ j, j < s.size → W.cell? ⟨g, j, none⟩ = some (.int .u8 ((bytesOf s).getD j 0))) (hi : i < s.size) (j : Nat) (hj : j < s.size) :
    (W.setCell ⟨g, i, none⟩ (.int .u8 (bits BinOp.xor IntKind.u8 ((bytesOf s)[i]?.getD 0) ((1 + a2.tmod 255) % 256)))).cell? ⟨g, 0 + j, none⟩ = some (.int .u8 ((flipL s i a2).getD j 0)) := by
  rw [Nat.zero_add]
  unfold flipL
  have hl : (bytesOf s).length = s.size := by unfold bytesOf; simp
  by_cases e : j = i
  · subst e
    rw [World.cell?_setCell_same (h := hW j hj), List.getD_eq_getElem?_getD, List.getElem?_set_self (by omega)]
    rfl
  · rw [World.cell?_setCell_other (h := by intro h; injection h with _ h2; omega), hW j hj, List.getD_eq_getElem?_getD, List.getD_eq_getElem?_getD, List.getElem?_set_ne (by omega)]
theorem below_set {b : Nat} {w W : World} (h : Below b w W) {g : Nat} (hg : b ≤ g) {i : Nat} {v : Value} : Below b w (W.setCell ⟨g, i, none⟩ v) :=
  h.trans ⟨rfl, rfl, rfl, by simp, fun k hk => heap_setCell_other _ _ _ _ (by show k ≠ g; omega)⟩

def clewlaw16_PackShort.f (k : Nat) (l0 : List (S43)) (a1 : Int) (a2 : Int) : Option (Bool) := if 0 ≤ (mn (l0.length : Int) 60) then (if (mn (l0.length : Int) 60) ≤ (l0.length : Int) then ((some (l0.take ((mn (l0.length : Int) 60) : Int).toNat : List (S43))).bind fun y201 => ((pack_Encode.f k y201).bind fun t205 => (if t205.toList = ([] : List UInt8) then ((cert_Right.f k y201).bind fun t206 => (if t206 = true then (some false) else ((clewlaw16_fixed.f k).bind fun t207 => (some t207)))) else (if (t205.size : Int) = 0 then (none) else ((pack_Decode.f k (flipS t205 (Int.tmod (wrap64 (a1)) (t205.size : Int)).toNat a2)).bind fun bt208 => (if 0 ≤ (Int.tmod (wrap64 (a1)) (t205.size : Int)) then (if (Int.tmod (wrap64 (a1)) (t205.size : Int)) ≤ (t205.size : Int) then (if 0 ≤ (mn (Int.tmod (wrap64 (a1)) (t205.size : Int)) (wrap64 ((t205.size : Int) - 4))) then (if (mn (Int.tmod (wrap64 (a1)) (t205.size : Int)) (wrap64 ((t205.size : Int) - 4))) ≤ (t205.size : Int) then ((crc_Seal.f (t205.extract 0 ((mn (Int.tmod (wrap64 (a1)) (t205.size : Int)) (wrap64 ((t205.size : Int) - 4))) : Int).toNat)).bind fun t212 => ((pack_Decode.f k (t205.extract 0 ((Int.tmod (wrap64 (a1)) (t205.size : Int)) : Int).toNat)).bind fun bt213 => ((pack_Decode.f k t212).bind fun bt217 => (if (bt208.1.length : Int) = 0 then (if bt208.2 = 8 then (if bt213.2 = 0 then (none) else (if bt217.2 = 0 then (none) else ((clewlaw16_fixed.f k).bind fun t221 => (some t221)))) else (none)) else (none))))) else (none)) else (none)) else (none)) else (none))))))) else (none)) else (none)
def clewlaw16_PackShort.T9 : Bool × List (List Nat × List Nat) := (true, [([], []), ([], []), ([0, 1], [0, 1]), ([], []), ([], []), ([], []), ([5], [5]), ([6], [6]), ([4, 7], [4, 7]), ([3, 8], [3, 8]), ([9], [9]), ([2, 10, 0, 1, 2], [2]), ([10, 11, 0, 1, 2, 3, 4, 5, 6, 7, 8, 9, 10, 11], [10])])
def clewlaw16_PackShort.B9 : List Nat := [0, 0, 3, 0, 0, 0, 32, 96, 240, 504, 1016, 2047, 4095]
theorem clewlaw16_PackShort.tab9 : rtab .any (opsOf Tryd.f5 9) = clewlaw16_PackShort.T9 := by kernel_rfl
theorem clewlaw16_PackShort.bits9 : waitsOk clewlaw16_PackShort.T9.2 clewlaw16_PackShort.B9 = true := by kernel_rfl
set_option maxHeartbeats 8000000 in
set_option maxRecDepth 100000 in
theorem clewlaw16_PackShort.calls (k : Nat) (A0 : Option Addr) (c0 : Nat) (l0 : List (S43)) (a1 : Int) (a2 : Int) (r : Bool) (w : World) (hr0 : Kd.C k43 w A0 l0.length l0) (hc0 : l0.length ≤ c0) (hTab : TabW w) (h : clewlaw16_PackShort.f k l0 a1 a2 = some r) :
    Calls Tryd.prog 5 #[.slice A0 l0.length c0, .int .u16 a1, .int .u8 a2] w fun e w' => e = .returned (.bool r) ∧ Below w.heap.size w w' := by
  have HR0 := Aside0.mk hr0
  have HC0 := Aside0.mk hc0
  clear hr0 hc0
  have HB := Aside0.mk (Below.refl w.heap.size w)
  have HTb := Aside0.mk hTab
  clear hTab
  have H : (if 0 ≤ (mn (l0.length : Int) 60) then (if (mn (l0.length : Int) 60) ≤ (l0.length : Int) then ((some (l0.take ((mn (l0.length : Int) 60) : Int).toNat : List (S43))).bind fun y201 => ((pack_Encode.f k y201).bind fun t205 => (if t205.toList = ([] : List UInt8) then ((cert_Right.f k y201).bind fun t206 => (if t206 = true then (some false) else ((clewlaw16_fixed.f k).bind fun t207 => (some t207)))) else (if (t205.size : Int) = 0 then (none) else ((pack_Decode.f k (flipS t205 (Int.tmod (wrap64 (a1)) (t205.size : Int)).toNat a2)).bind fun bt208 => (if 0 ≤ (Int.tmod (wrap64 (a1)) (t205.size : Int)) then (if (Int.tmod (wrap64 (a1)) (t205.size : Int)) ≤ (t205.size : Int) then (if 0 ≤ (mn (Int.tmod (wrap64 (a1)) (t205.size : Int)) (wrap64 ((t205.size : Int) - 4))) then (if (mn (Int.tmod (wrap64 (a1)) (t205.size : Int)) (wrap64 ((t205.size : Int) - 4))) ≤ (t205.size : Int) then ((crc_Seal.f (t205.extract 0 ((mn (Int.tmod (wrap64 (a1)) (t205.size : Int)) (wrap64 ((t205.size : Int) - 4))) : Int).toNat)).bind fun t212 => ((pack_Decode.f k (t205.extract 0 ((Int.tmod (wrap64 (a1)) (t205.size : Int)) : Int).toNat)).bind fun bt213 => ((pack_Decode.f k t212).bind fun bt217 => (if (bt208.1.length : Int) = 0 then (if bt208.2 = 8 then (if bt213.2 = 0 then (none) else (if bt217.2 = 0 then (none) else ((clewlaw16_fixed.f k).bind fun t221 => (some t221)))) else (none)) else (none))))) else (none)) else (none)) else (none)) else (none))))))) else (none)) else (none)) = some r := h
  clear h
  obtain ⟨ji4, hji4⟩ : ∃ j_ : Int, (mn (l0.length : Int) 60) = j_ := ⟨_, rfl⟩
  replace H : (if 0 ≤ (ji4) then (if (ji4) ≤ (l0.length : Int) then ((some (l0.take ((ji4) : Int).toNat : List (S43))).bind fun y201 => ((pack_Encode.f k y201).bind fun t205 => (if t205.toList = ([] : List UInt8) then ((cert_Right.f k y201).bind fun t206 => (if t206 = true then (some false) else ((clewlaw16_fixed.f k).bind fun t207 => (some t207)))) else (if (t205.size : Int) = 0 then (none) else ((pack_Decode.f k (flipS t205 (Int.tmod (wrap64 (a1)) (t205.size : Int)).toNat a2)).bind fun bt208 => (if 0 ≤ (Int.tmod (wrap64 (a1)) (t205.size : Int)) then (if (Int.tmod (wrap64 (a1)) (t205.size : Int)) ≤ (t205.size : Int) then (if 0 ≤ (mn (Int.tmod (wrap64 (a1)) (t205.size : Int)) (wrap64 ((t205.size : Int) - 4))) then (if (mn (Int.tmod (wrap64 (a1)) (t205.size : Int)) (wrap64 ((t205.size : Int) - 4))) ≤ (t205.size : Int) then ((crc_Seal.f (t205.extract 0 ((mn (Int.tmod (wrap64 (a1)) (t205.size : Int)) (wrap64 ((t205.size : Int) - 4))) : Int).toNat)).bind fun t212 => ((pack_Decode.f k (t205.extract 0 ((Int.tmod (wrap64 (a1)) (t205.size : Int)) : Int).toNat)).bind fun bt213 => ((pack_Decode.f k t212).bind fun bt217 => (if (bt208.1.length : Int) = 0 then (if bt208.2 = 8 then (if bt213.2 = 0 then (none) else (if bt217.2 = 0 then (none) else ((clewlaw16_fixed.f k).bind fun t221 => (some t221)))) else (none)) else (none))))) else (none)) else (none)) else (none)) else (none))))))) else (none)) else (none)) = some r := by first | (rw [hji4] at H; exact H) | (simp only [hji4] at H ⊢; exact H)
  (try (have hji4h : ji4 ≤ 60 := by (rw [← hji4]; unfold mn; (repeat' split) <;> omega)))
  (try (have hji4g : ji4 ≤ 64 := by omega))
  (try (have hji4l : 0 ≤ ji4 := by (rw [← hji4]; unfold mn; (repeat' split) <;> omega)))
  (try (have hji4m : 0 ≤ ji4 := by omega))
  have hji4_ : (if 60 < (l0.length : Int) then 60 else (l0.length : Int)) = ji4 := hji4
  obtain ⟨c5, H⟩ := ite_yes_ H
  have c5b0 := eq_true c5
  have c5b1 : decide (0 ≤ (ji4)) = true := decide_eq_true c5
  clear c5
  obtain ⟨c6, H⟩ := ite_yes_ H
  have c6b0 := eq_true c6
  have c6b1 : decide ((ji4) ≤ (l0.length : Int)) = true := decide_eq_true c6
  clear c6
  obtain ⟨y201, hy201⟩ : ∃ y_ : List (S43), y_ = (l0.take ((ji4) : Int).toNat) := ⟨_, rfl⟩
  replace H : ((pack_Encode.f k y201).bind fun t205 => (if t205.toList = ([] : List UInt8) then ((cert_Right.f k y201).bind fun t206 => (if t206 = true then (some false) else ((clewlaw16_fixed.f k).bind fun t207 => (some t207)))) else (if (t205.size : Int) = 0 then (none) else ((pack_Decode.f k (flipS t205 (Int.tmod (wrap64 (a1)) (t205.size : Int)).toNat a2)).bind fun bt208 => (if 0 ≤ (Int.tmod (wrap64 (a1)) (t205.size : Int)) then (if (Int.tmod (wrap64 (a1)) (t205.size : Int)) ≤ (t205.size : Int) then (if 0 ≤ (mn (Int.tmod (wrap64 (a1)) (t205.size : Int)) (wrap64 ((t205.size : Int) - 4))) then (if (mn (Int.tmod (wrap64 (a1)) (t205.size : Int)) (wrap64 ((t205.size : Int) - 4))) ≤ (t205.size : Int) then ((crc_Seal.f (t205.extract 0 ((mn (Int.tmod (wrap64 (a1)) (t205.size : Int)) (wrap64 ((t205.size : Int) - 4))) : Int).toNat)).bind fun t212 => ((pack_Decode.f k (t205.extract 0 ((Int.tmod (wrap64 (a1)) (t205.size : Int)) : Int).toNat)).bind fun bt213 => ((pack_Decode.f k t212).bind fun bt217 => (if (bt208.1.length : Int) = 0 then (if bt208.2 = 8 then (if bt213.2 = 0 then (none) else (if bt217.2 = 0 then (none) else ((clewlaw16_fixed.f k).bind fun t221 => (some t221)))) else (none)) else (none))))) else (none)) else (none)) else (none)) else (none)))))) = some r := by first | (rw [hy201]; with_reducible exact H) | (have H2_ := (Option.bind_some _ _).symm.trans H; rw [hy201]; with_reducible exact H2_) | (have H2_ := (Option.bind_some _ _).symm.trans H; with_reducible exact H2_) | with_reducible exact H | (rw [hy201]; exact H) | exact H
  have Ny201 := Aside0.mk hy201
  clear hy201
  replace H := Option.bind_eq_some_iff.mp H
  obtain ⟨t205, A70, H⟩ := H
  replace H : (if t205.toList = ([] : List UInt8) then ((cert_Right.f k y201).bind fun t206 => (if t206 = true then (some false) else ((clewlaw16_fixed.f k).bind fun t207 => (some t207)))) else (if (t205.size : Int) = 0 then (none) else ((pack_Decode.f k (flipS t205 (Int.tmod (wrap64 (a1)) (t205.size : Int)).toNat a2)).bind fun bt208 => (if 0 ≤ (Int.tmod (wrap64 (a1)) (t205.size : Int)) then (if (Int.tmod (wrap64 (a1)) (t205.size : Int)) ≤ (t205.size : Int) then (if 0 ≤ (mn (Int.tmod (wrap64 (a1)) (t205.size : Int)) (wrap64 ((t205.size : Int) - 4))) then (if (mn (Int.tmod (wrap64 (a1)) (t205.size : Int)) (wrap64 ((t205.size : Int) - 4))) ≤ (t205.size : Int) then ((crc_Seal.f (t205.extract 0 ((mn (Int.tmod (wrap64 (a1)) (t205.size : Int)) (wrap64 ((t205.size : Int) - 4))) : Int).toNat)).bind fun t212 => ((pack_Decode.f k (t205.extract 0 ((Int.tmod (wrap64 (a1)) (t205.size : Int)) : Int).toNat)).bind fun bt213 => ((pack_Decode.f k t212).bind fun bt217 => (if (bt208.1.length : Int) = 0 then (if bt208.2 = 8 then (if bt213.2 = 0 then (none) else (if bt217.2 = 0 then (none) else ((clewlaw16_fixed.f k).bind fun t221 => (some t221)))) else (none)) else (none))))) else (none)) else (none)) else (none)) else (none))))) = some r := H
  have A7 := Aside0.mk A70
  clear A70
  by_cases c8 : t205.toList = ([] : List UInt8)
  · rw [if_pos c8] at H
    have c8b0 : (t205.toList == ([] : List UInt8)) = true := beq_iff_eq.mpr c8
    have c8b1 : (t205.toList != ([] : List UInt8)) = false := bne_eq_false_iff_eq.mpr c8
    have c8b2 : t205.toList.isEmpty = true := by rw [c8]; rfl
    have c8b3 : (!t205.toList.isEmpty) = false := by rw [c8]; rfl
    clear c8
    replace H := Option.bind_eq_some_iff.mp H
    obtain ⟨t206, A90, H⟩ := H
    replace H : (if t206 = true then (some false) else ((clewlaw16_fixed.f k).bind fun t207 => (some t207))) = some r := H
    have A9 := Aside0.mk A90
    clear A90
    by_cases c10 : t206 = true
    · subst c10
      have H1 : (some false) = some r := by rw [if_pos rfl] at H; exact H
      clear H
      have H := H1
      clear H1
      obtain rfl := Option.some.inj H
      have q11 : ((ji4) : Int) ≤ ((l0.length : Int) : Int) := of_decide_eq_true (by first | (with_reducible assumption) | assumption)
      obtain ⟨i011, hi011, _, hsz11, _⟩ := info_parts info43
      have hroom11 : l0.length ≤ c0 := HC0.out
      have hC11 : Kd.C k43 _ A0 l0.length l0 := HR0.out
      have hcut11 := cut_to (P := Tryd.prog) 22 43 .i64 Tryd.underlying22 hi011 A0 l0.length c0 (ji4) (of_decide_eq_true (by first | (with_reducible assumption) | assumption)) q11 hroom11
      have hr11 := Kd.C_take (m := ((ji4) : Int).toNat) hC11 (by omega)
      have hy11 : y201.length = ((ji4) : Int).toNat := (by rw [Ny201.out, List.length_take]; omega)
      rw [← Ny201.out] at hr11
      rw [← hy11] at hcut11
      have HR204 := Aside0.mk hr11
      have HC204 := Aside0.mk (show y201.length ≤ c0 from by omega)
      clear hr11 hC11 hroom11 hi011 hsz11
      have KY11 := Aside0.mk hy11
      clear hy11
      replace q11 := eq_true q11
      go_enter Tryd.func5, Tryd.ntmps5
      go_wp2_with (first | ((with_reducible refine gate_callee (f := 10) rfl ?_); refine goesL_ (some 24) rfl rfl Tryd.func10 (by kernel_rfl) rfl #[.slice A0 y201.length c0] rfl (by (try simp only [List.map_toArray, List.map_cons, List.map_nil]); first | done | rfl | (simp only [List.length_drop, List.length_take]; rfl)) ?_; (with_reducible refine (pack_Encode.calls k _ _ y201 t205 _ ?side1 ?side2 ?side3 A7.out).mono ?_); (case side1 => repeat (first | exact HR204.out | (with_reducible refine Kd.C_alloc ?_ _) | (with_reducible refine Kd.C_drewN ?_ _) | (with_reducible refine Kd.C_drew ?_))); (case side2 => exact HC204.out); (case side3 => exact TabW.below HTb.out (by repeat (first | (with_reducible first | exact HB.out | apply below_alloc | apply pw_below_drewN | apply below_drew1) | exact HB.out))); rintro e w12 ⟨rfl, hb⟩; refine ⟨_, rfl, ?_⟩; have n0_ := Aside0.mk (below_step (by repeat (first | (with_reducible first | exact HB.out | apply below_alloc | apply pw_below_drewN | apply below_drew1) | exact HB.out)) hb); clear HB; have HB := n0_; clear n0_; (try clear hb); (try clear hb2); (try clear hk); (try clear hi)) | (go_at_call 10; (with_reducible refine (pack_Encode.calls k _ _ y201 t205 _ ?side1 ?side2 ?side3 A7.out).mono ?_); (case side1 => repeat (first | exact HR204.out | (with_reducible refine Kd.C_alloc ?_ _) | (with_reducible refine Kd.C_drewN ?_ _) | (with_reducible refine Kd.C_drew ?_))); (case side2 => exact HC204.out); (case side3 => exact TabW.below HTb.out (by repeat (first | (with_reducible first | exact HB.out | apply below_alloc | apply pw_below_drewN | apply below_drew1) | exact HB.out))); rintro e w12 ⟨rfl, hb⟩; have n0_ := Aside0.mk (below_step (by repeat (first | (with_reducible first | exact HB.out | apply below_alloc | apply pw_below_drewN | apply below_drew1) | exact HB.out)) hb); clear HB; have HB := n0_; clear n0_; (try clear hb); (try clear hb2); (try clear hk); (try clear hi)) | ((with_reducible refine gate_callee (f := 15) rfl ?_); refine goesL_ (some 28) rfl rfl Tryd.func15 (by kernel_rfl) rfl #[.slice A0 y201.length c0] rfl (by (try simp only [List.map_toArray, List.map_cons, List.map_nil]); first | done | rfl | (simp only [List.length_drop, List.length_take]; rfl)) ?_; (with_reducible refine (cert_Right.calls k _ _ y201 true _ ?side1 ?side2 A9.out).mono ?_); (case side1 => repeat (first | exact (Kd.C_below HR204.out HB.out) | (with_reducible refine Kd.C_alloc ?_ _) | (with_reducible refine Kd.C_drewN ?_ _) | (with_reducible refine Kd.C_drew ?_))); (case side2 => exact HC204.out); rintro e w13 ⟨rfl, hb⟩; refine ⟨_, rfl, ?_⟩; have n0_ := Aside0.mk (below_step (by repeat (first | (with_reducible first | exact HB.out | apply below_alloc | apply pw_below_drewN | apply below_drew1) | exact HB.out)) hb); clear HB; have HB := n0_; clear n0_; (try clear hb); (try clear hb2); (try clear hk); (try clear hi)) | (go_at_call 15; (with_reducible refine (cert_Right.calls k _ _ y201 true _ ?side1 ?side2 A9.out).mono ?_); (case side1 => repeat (first | exact (Kd.C_below HR204.out HB.out) | (with_reducible refine Kd.C_alloc ?_ _) | (with_reducible refine Kd.C_drewN ?_ _) | (with_reducible refine Kd.C_drew ?_))); (case side2 => exact HC204.out); rintro e w13 ⟨rfl, hb⟩; have n0_ := Aside0.mk (below_step (by repeat (first | (with_reducible first | exact HB.out | apply below_alloc | apply pw_below_drewN | apply below_drew1) | exact HB.out)) hb); clear HB; have HB := n0_; clear n0_; (try clear hb); (try clear hb2); (try clear hk); (try clear hi)))
      go_ret
      exact ⟨by first | rfl | (simp [errW_none, errW_some] <;> rfl) | (simp only [← hji4]; first | rfl | (simp [errW_none, errW_some] <;> rfl)) | (simp [*, errW_none, errW_some] <;> rfl), by repeat (first | (with_reducible first | exact HB.out | apply below_alloc | apply pw_below_drewN | apply below_drew1) | exact HB.out)⟩
    · replace c10 := Bool.eq_false_iff.mpr c10
      subst c10
      have H1 : ((clewlaw16_fixed.f k).bind fun t207 => (some t207)) = some r := by rw [if_neg (show ¬ (false = true) by decide)] at H; exact H
      clear H
      have H := H1
      clear H1
      replace H := Option.bind_eq_some_iff.mp H
      obtain ⟨t207, A140, H⟩ := H
      replace H : (some t207) = some r := H
      have A14 := Aside0.mk A140
      clear A140
      obtain rfl := Option.some.inj H
      have q15 : ((ji4) : Int) ≤ ((l0.length : Int) : Int) := of_decide_eq_true (by first | (with_reducible assumption) | assumption)
      obtain ⟨i015, hi015, _, hsz15, _⟩ := info_parts info43
      have hroom15 : l0.length ≤ c0 := HC0.out
      have hC15 : Kd.C k43 _ A0 l0.length l0 := HR0.out
      have hcut15 := cut_to (P := Tryd.prog) 22 43 .i64 Tryd.underlying22 hi015 A0 l0.length c0 (ji4) (of_decide_eq_true (by first | (with_reducible assumption) | assumption)) q15 hroom15
      have hr15 := Kd.C_take (m := ((ji4) : Int).toNat) hC15 (by omega)
      have hy15 : y201.length = ((ji4) : Int).toNat := (by rw [Ny201.out, List.length_take]; omega)
      rw [← Ny201.out] at hr15
      rw [← hy15] at hcut15
      have HR204 := Aside0.mk hr15
      have HC204 := Aside0.mk (show y201.length ≤ c0 from by omega)
      clear hr15 hC15 hroom15 hi015 hsz15
      have KY15 := Aside0.mk hy15
      clear hy15
      replace q15 := eq_true q15
      go_enter Tryd.func5, Tryd.ntmps5
      go_wp2_with (first | ((with_reducible refine gate_callee (f := 10) rfl ?_); refine goesL_ (some 24) rfl rfl Tryd.func10 (by kernel_rfl) rfl #[.slice A0 y201.length c0] rfl (by (try simp only [List.map_toArray, List.map_cons, List.map_nil]); first | done | rfl | (simp only [List.length_drop, List.length_take]; rfl)) ?_; (with_reducible refine (pack_Encode.calls k _ _ y201 t205 _ ?side1 ?side2 ?side3 A7.out).mono ?_); (case side1 => repeat (first | exact HR204.out | (with_reducible refine Kd.C_alloc ?_ _) | (with_reducible refine Kd.C_drewN ?_ _) | (with_reducible refine Kd.C_drew ?_))); (case side2 => exact HC204.out); (case side3 => exact TabW.below HTb.out (by repeat (first | (with_reducible first | exact HB.out | apply below_alloc | apply pw_below_drewN | apply below_drew1) | exact HB.out))); rintro e w16 ⟨rfl, hb⟩; refine ⟨_, rfl, ?_⟩; have n0_ := Aside0.mk (below_step (by repeat (first | (with_reducible first | exact HB.out | apply below_alloc | apply pw_below_drewN | apply below_drew1) | exact HB.out)) hb); clear HB; have HB := n0_; clear n0_; (try clear hb); (try clear hb2); (try clear hk); (try clear hi)) | (go_at_call 10; (with_reducible refine (pack_Encode.calls k _ _ y201 t205 _ ?side1 ?side2 ?side3 A7.out).mono ?_); (case side1 => repeat (first | exact HR204.out | (with_reducible refine Kd.C_alloc ?_ _) | (with_reducible refine Kd.C_drewN ?_ _) | (with_reducible refine Kd.C_drew ?_))); (case side2 => exact HC204.out); (case side3 => exact TabW.below HTb.out (by repeat (first | (with_reducible first | exact HB.out | apply below_alloc | apply pw_below_drewN | apply below_drew1) | exact HB.out))); rintro e w16 ⟨rfl, hb⟩; have n0_ := Aside0.mk (below_step (by repeat (first | (with_reducible first | exact HB.out | apply below_alloc | apply pw_below_drewN | apply below_drew1) | exact HB.out)) hb); clear HB; have HB := n0_; clear n0_; (try clear hb); (try clear hb2); (try clear hk); (try clear hi)) | ((with_reducible refine gate_callee (f := 15) rfl ?_); refine goesL_ (some 28) rfl rfl Tryd.func15 (by kernel_rfl) rfl #[.slice A0 y201.length c0] rfl (by (try simp only [List.map_toArray, List.map_cons, List.map_nil]); first | done | rfl | (simp only [List.length_drop, List.length_take]; rfl)) ?_; (with_reducible refine (cert_Right.calls k _ _ y201 false _ ?side1 ?side2 A9.out).mono ?_); (case side1 => repeat (first | exact (Kd.C_below HR204.out HB.out) | (with_reducible refine Kd.C_alloc ?_ _) | (with_reducible refine Kd.C_drewN ?_ _) | (with_reducible refine Kd.C_drew ?_))); (case side2 => exact HC204.out); rintro e w17 ⟨rfl, hb⟩; refine ⟨_, rfl, ?_⟩; have n0_ := Aside0.mk (below_step (by repeat (first | (with_reducible first | exact HB.out | apply below_alloc | apply pw_below_drewN | apply below_drew1) | exact HB.out)) hb); clear HB; have HB := n0_; clear n0_; (try clear hb); (try clear hb2); (try clear hk); (try clear hi)) | (go_at_call 15; (with_reducible refine (cert_Right.calls k _ _ y201 false _ ?side1 ?side2 A9.out).mono ?_); (case side1 => repeat (first | exact (Kd.C_below HR204.out HB.out) | (with_reducible refine Kd.C_alloc ?_ _) | (with_reducible refine Kd.C_drewN ?_ _) | (with_reducible refine Kd.C_drew ?_))); (case side2 => exact HC204.out); rintro e w17 ⟨rfl, hb⟩; have n0_ := Aside0.mk (below_step (by repeat (first | (with_reducible first | exact HB.out | apply below_alloc | apply pw_below_drewN | apply below_drew1) | exact HB.out)) hb); clear HB; have HB := n0_; clear n0_; (try clear hb); (try clear hb2); (try clear hk); (try clear hi)) | (go_at_call 14; (with_reducible refine (clewlaw16_fixed.calls k  t207 _ ?side1 A14.out).mono ?_); (case side1 => exact TabW.below HTb.out (by repeat (first | (with_reducible first | exact HB.out | apply below_alloc | apply pw_below_drewN | apply below_drew1) | exact HB.out))); rintro e w18 ⟨rfl, hb⟩; have n0_ := Aside0.mk (below_step (by repeat (first | (with_reducible first | exact HB.out | apply below_alloc | apply pw_below_drewN | apply below_drew1) | exact HB.out)) hb); clear HB; have HB := n0_; clear n0_; (try clear hb); (try clear hb2); (try clear hk); (try clear hi)))
      go_ret
      exact ⟨by first | rfl | (simp [errW_none, errW_some] <;> rfl) | (simp only [← hji4]; first | rfl | (simp [errW_none, errW_some] <;> rfl)) | (simp [*, errW_none, errW_some] <;> rfl), by repeat (first | (with_reducible first | exact HB.out | apply below_alloc | apply pw_below_drewN | apply below_drew1) | exact HB.out)⟩
  · rw [if_neg c8] at H
    have c8b0 : (t205.toList == ([] : List UInt8)) = false := beq_eq_false_iff_ne.mpr c8
    have c8b1 : (t205.toList != ([] : List UInt8)) = true := bne_iff_ne.mpr c8
    have c8b2 : t205.toList.isEmpty = false := by cases h_ : t205.toList with | nil => exact absurd h_ c8 | cons _ _ => rfl
    have c8b3 : (!t205.toList.isEmpty) = true := by cases h_ : t205.toList with | nil => exact absurd h_ c8 | cons _ _ => rfl
    obtain ⟨c19, H⟩ := ite_no_ H
    have c19b0 : ((t205.size : Int) == 0) = false := beq_eq_false_iff_ne.mpr c19
    have c19b1 : ((t205.size : Int) != 0) = true := bne_iff_ne.mpr c19
    replace H := Option.bind_eq_some_iff.mp H
    obtain ⟨⟨t208, t209⟩, A200, H⟩ := H
    replace H : (if 0 ≤ (Int.tmod (wrap64 (a1)) (t205.size : Int)) then (if (Int.tmod (wrap64 (a1)) (t205.size : Int)) ≤ (t205.size : Int) then (if 0 ≤ (mn (Int.tmod (wrap64 (a1)) (t205.size : Int)) (wrap64 ((t205.size : Int) - 4))) then (if (mn (Int.tmod (wrap64 (a1)) (t205.size : Int)) (wrap64 ((t205.size : Int) - 4))) ≤ (t205.size : Int) then ((crc_Seal.f (t205.extract 0 ((mn (Int.tmod (wrap64 (a1)) (t205.size : Int)) (wrap64 ((t205.size : Int) - 4))) : Int).toNat)).bind fun t212 => ((pack_Decode.f k (t205.extract 0 ((Int.tmod (wrap64 (a1)) (t205.size : Int)) : Int).toNat)).bind fun bt213 => ((pack_Decode.f k t212).bind fun bt217 => (if (t208.length : Int) = 0 then (if t209 = 8 then (if bt213.2 = 0 then (none) else (if bt217.2 = 0 then (none) else ((clewlaw16_fixed.f k).bind fun t221 => (some t221)))) else (none)) else (none))))) else (none)) else (none)) else (none)) else (none)) = some r := H
    have A20 := Aside0.mk A200
    clear A200
    obtain ⟨ji21, hji21⟩ : ∃ j_ : Int, (Int.tmod (wrap64 (a1)) (t205.size : Int)) = j_ := ⟨_, rfl⟩
    replace H : (if 0 ≤ (ji21) then (if (ji21) ≤ (t205.size : Int) then (if 0 ≤ (mn (ji21) (wrap64 ((t205.size : Int) - 4))) then (if (mn (ji21) (wrap64 ((t205.size : Int) - 4))) ≤ (t205.size : Int) then ((crc_Seal.f (t205.extract 0 ((mn (ji21) (wrap64 ((t205.size : Int) - 4))) : Int).toNat)).bind fun t212 => ((pack_Decode.f k (t205.extract 0 ((ji21) : Int).toNat)).bind fun bt213 => ((pack_Decode.f k t212).bind fun bt217 => (if (t208.length : Int) = 0 then (if t209 = 8 then (if bt213.2 = 0 then (none) else (if bt217.2 = 0 then (none) else ((clewlaw16_fixed.f k).bind fun t221 => (some t221)))) else (none)) else (none))))) else (none)) else (none)) else (none)) else (none)) = some r := by first | (rw [hji21] at H; exact H) | (simp only [hji21] at H ⊢; exact H)
    (try rw [hji21] at A7)
    (try rw [hji21] at A20)
    obtain ⟨c22, H⟩ := ite_yes_ H
    have c22b0 := eq_true c22
    have c22b1 : decide (0 ≤ (ji21)) = true := decide_eq_true c22
    clear c22
    obtain ⟨c23, H⟩ := ite_yes_ H
    have c23b0 := eq_true c23
    have c23b1 : decide ((ji21) ≤ (t205.size : Int)) = true := decide_eq_true c23
    clear c23
    obtain ⟨ji24, hji24⟩ : ∃ j_ : Int, (mn (ji21) (wrap64 ((t205.size : Int) - 4))) = j_ := ⟨_, rfl⟩
    replace H : (if 0 ≤ (ji24) then (if (ji24) ≤ (t205.size : Int) then ((crc_Seal.f (t205.extract 0 ((ji24) : Int).toNat)).bind fun t212 => ((pack_Decode.f k (t205.extract 0 ((ji21) : Int).toNat)).bind fun bt213 => ((pack_Decode.f k t212).bind fun bt217 => (if (t208.length : Int) = 0 then (if t209 = 8 then (if bt213.2 = 0 then (none) else (if bt217.2 = 0 then (none) else ((clewlaw16_fixed.f k).bind fun t221 => (some t221)))) else (none)) else (none))))) else (none)) else (none)) = some r := by first | (rw [hji24] at H; exact H) | (simp only [hji24] at H ⊢; exact H)
    (try rw [hji24] at A7)
    (try rw [hji24] at A20)
    have hji24_ : (if (wrap64 ((t205.size : Int) - 4)) < (ji21) then (wrap64 ((t205.size : Int) - 4)) else (ji21)) = ji24 := hji24
    obtain ⟨c25, H⟩ := ite_yes_ H
    have c25b0 := eq_true c25
    have c25b1 : decide (0 ≤ (ji24)) = true := decide_eq_true c25
    clear c25
    obtain ⟨c26, H⟩ := ite_yes_ H
    have c26b0 := eq_true c26
    have c26b1 : decide ((ji24) ≤ (t205.size : Int)) = true := decide_eq_true c26
    clear c26
    replace H := Option.bind_eq_some_iff.mp H
    obtain ⟨t212, A270, H⟩ := H
    replace H : ((pack_Decode.f k (t205.extract 0 ((ji21) : Int).toNat)).bind fun bt213 => ((pack_Decode.f k t212).bind fun bt217 => (if (t208.length : Int) = 0 then (if t209 = 8 then (if bt213.2 = 0 then (none) else (if bt217.2 = 0 then (none) else ((clewlaw16_fixed.f k).bind fun t221 => (some t221)))) else (none)) else (none)))) = some r := H
    have A27 := Aside0.mk A270
    clear A270
    replace H := Option.bind_eq_some_iff.mp H
    obtain ⟨⟨t213, t214⟩, A280, H⟩ := H
    replace H : ((pack_Decode.f k t212).bind fun bt217 => (if (t208.length : Int) = 0 then (if t209 = 8 then (if t214 = 0 then (none) else (if bt217.2 = 0 then (none) else ((clewlaw16_fixed.f k).bind fun t221 => (some t221)))) else (none)) else (none))) = some r := H
    have A28 := Aside0.mk A280
    clear A280
    replace H := Option.bind_eq_some_iff.mp H
    obtain ⟨⟨t217, t218⟩, A290, H⟩ := H
    replace H : (if (t208.length : Int) = 0 then (if t209 = 8 then (if t214 = 0 then (none) else (if t218 = 0 then (none) else ((clewlaw16_fixed.f k).bind fun t221 => (some t221)))) else (none)) else (none)) = some r := H
    have A29 := Aside0.mk A290
    clear A290
    obtain ⟨c30, H⟩ := ite_yes_ H
    have c30b0 : ((t208.length : Int) == 0) = true := beq_iff_eq.mpr c30
    have c30b1 : ((t208.length : Int) != 0) = false := bne_eq_false_iff_eq.mpr c30
    clear c30
    obtain ⟨c31, H⟩ := ite_yes_ H
    have c31b0 : (t209 == 8) = true := beq_iff_eq.mpr c31
    have c31b1 : (t209 != 8) = false := bne_eq_false_iff_eq.mpr c31
    clear c31
    obtain ⟨c32, H⟩ := ite_no_ H
    have c32b0 : (t214 == 0) = false := beq_eq_false_iff_ne.mpr c32
    have c32b1 : (t214 != 0) = true := bne_iff_ne.mpr c32
    obtain ⟨c41, H⟩ := ite_no_ H
    have c41b0 : (t218 == 0) = false := beq_eq_false_iff_ne.mpr c41
    have c41b1 : (t218 != 0) = true := bne_iff_ne.mpr c41
    replace H := Option.bind_eq_some_iff.mp H
    obtain ⟨t221, A500, H⟩ := H
    replace H : (some t221) = some r := H
    have A50 := Aside0.mk A500
    clear A500
    obtain rfl := Option.some.inj H
    have q51 : ((ji4) : Int) ≤ ((l0.length : Int) : Int) := of_decide_eq_true (by first | (with_reducible assumption) | assumption)
    obtain ⟨i051, hi051, _, hsz51, _⟩ := info_parts info43
    have hroom51 : l0.length ≤ c0 := HC0.out
    have hC51 : Kd.C k43 _ A0 l0.length l0 := HR0.out
    have hcut51 := cut_to (P := Tryd.prog) 22 43 .i64 Tryd.underlying22 hi051 A0 l0.length c0 (ji4) (of_decide_eq_true (by first | (with_reducible assumption) | assumption)) q51 hroom51
    have hr51 := Kd.C_take (m := ((ji4) : Int).toNat) hC51 (by omega)
    have hy51 : y201.length = ((ji4) : Int).toNat := (by rw [Ny201.out, List.length_take]; omega)
    rw [← Ny201.out] at hr51
    rw [← hy51] at hcut51
    have HR204 := Aside0.mk hr51
    have HC204 := Aside0.mk (show y201.length ≤ c0 from by omega)
    clear hr51 hC51 hroom51 hi051 hsz51
    have KY51 := Aside0.mk hy51
    clear hy51
    replace q51 := eq_true q51
    go_enter Tryd.func5, Tryd.ntmps5
    go_wp2_with (first | ((with_reducible refine gate_callee (f := 10) rfl ?_); refine goesL_ (some 24) rfl rfl Tryd.func10 (by kernel_rfl) rfl #[.slice A0 y201.length c0] rfl (by (try simp only [List.map_toArray, List.map_cons, List.map_nil]); first | done | rfl | (simp only [List.length_drop, List.length_take]; rfl)) ?_; (with_reducible refine (pack_Encode.calls k _ _ y201 t205 _ ?side1 ?side2 ?side3 A7.out).mono ?_); (case side1 => repeat (first | exact HR204.out | (with_reducible refine Kd.C_alloc ?_ _) | (with_reducible refine Kd.C_drewN ?_ _) | (with_reducible refine Kd.C_drew ?_))); (case side2 => exact HC204.out); (case side3 => exact TabW.below HTb.out (by repeat (first | (with_reducible first | exact HB.out | apply below_alloc | apply pw_below_drewN | apply below_drew1) | exact HB.out))); rintro e w52 ⟨rfl, hb⟩; refine ⟨_, rfl, ?_⟩; have n0_ := Aside0.mk (below_step (by repeat (first | (with_reducible first | exact HB.out | apply below_alloc | apply pw_below_drewN | apply below_drew1) | exact HB.out)) hb); clear HB; have HB := n0_; clear n0_; (try clear hb); (try clear hb2); (try clear hk); (try clear hi)) | (go_at_call 10; (with_reducible refine (pack_Encode.calls k _ _ y201 t205 _ ?side1 ?side2 ?side3 A7.out).mono ?_); (case side1 => repeat (first | exact HR204.out | (with_reducible refine Kd.C_alloc ?_ _) | (with_reducible refine Kd.C_drewN ?_ _) | (with_reducible refine Kd.C_drew ?_))); (case side2 => exact HC204.out); (case side3 => exact TabW.below HTb.out (by repeat (first | (with_reducible first | exact HB.out | apply below_alloc | apply pw_below_drewN | apply below_drew1) | exact HB.out))); rintro e w52 ⟨rfl, hb⟩; have n0_ := Aside0.mk (below_step (by repeat (first | (with_reducible first | exact HB.out | apply below_alloc | apply pw_below_drewN | apply below_drew1) | exact HB.out)) hb); clear HB; have HB := n0_; clear n0_; (try clear hb); (try clear hb2); (try clear hk); (try clear hi)))
    rw [Go.Lib.run_convert_string_bytes _ 9 38 5 t205 Tryd.underlying9 Tryd.underlying38 Tryd.underlying5]
    have HB1 := Aside0.mk (bytes_below HB.out t205 HB.out.size)
    have hW := bytes_cell w52 t205
    have hF := bytes_free w52 t205
    have hS := HB.out.size
    generalize grownCap w52 t205.size 0 5 = cap at *
    generalize Lib.bytesWorld w52 5 t205 = W1 at *
    generalize w52.heap.size = g at *
    clear HB
    have HB := HB1
    clear HB1
    obtain ⟨i, rfl⟩ : ∃ i : Nat, ji21 = (i : Int) := ⟨ji21.toNat, by have := of_decide_eq_true c22b1; omega⟩
    have hlt : i < t205.size := by have := tmod_lt a1 t205.size (by omega); omega
    have hlt1 : decide ((i : Int) < (t205.size : Int)) = true := by simp; omega
    have hlt2 := eq_true (of_decide_eq_true hlt1)
    have hcell := hW i hlt
    have hfree := hF i hlt
    go_wp2_with fail
    rw [run_convert_bytes_arg _ 38 5 Tryd.underlying38 Tryd.underlying5 g 0 t205.size cap _ (flip_length t205 i a2) (flip_cell hW hlt) 9 Tryd.underlying9]
    have HB1 := Aside0.mk (below_set HB.out hS (i := i) (v := Value.int IntKind.u8 (bits BinOp.xor IntKind.u8 ((bytesOf t205)[i]?.getD 0) ((1 + a2.tmod 255) % 256))))
    clear HB hcell hfree hW hF
    have HB := HB1
    clear HB1
    generalize World.setCell W1 _ _ = W2 at *
    rw [Int.toNat_natCast] at A20 A28
    have A20' : Aside0 (pack_Decode.f k (strOfNums (flipL t205 i a2)) = some (t208, t209)) := ⟨A20.out⟩
    clear A20
    have A20 := A20'
    clear A20'
    go_wp2_with (first | ((with_reducible refine gate_callee (f := 7) rfl ?_); refine goesL_ (some 54) rfl rfl Tryd.func7 (by kernel_rfl) rfl #[.string t205] rfl (by (try simp only [List.map_toArray, List.map_cons, List.map_nil]); first | done | rfl | (simp only [List.length_drop, List.length_take]; rfl)) ?_; (with_reducible refine (pack_Decode.calls k _ t208 t209 _ ?side1 A20.out).mono ?_); (case side1 => exact TabW.below HTb.out (by repeat (first | (with_reducible first | exact HB.out | apply below_alloc | apply pw_below_drewN | apply below_drew1) | exact HB.out))); rintro e w53 ⟨v210, rfl, ho0, hb⟩; refine ⟨_, rfl, ?_⟩; have n0_ := Aside0.mk (Kd.R_lower ho0 (below_size (by repeat (first | (with_reducible first | exact HB.out | apply below_alloc | apply pw_below_drewN | apply below_drew1) | exact HB.out)))); have n1_ := Aside0.mk (below_step (by repeat (first | (with_reducible first | exact HB.out | apply below_alloc | apply pw_below_drewN | apply below_drew1) | exact HB.out)) hb); clear HB; have HO211 := n0_; have HB := n1_; clear n0_ n1_; (try clear hb); (try clear hb2); (try clear hk); (try clear hi); (try clear ho0)) | (go_at_call 7; (with_reducible refine (pack_Decode.calls k _ t208 t209 _ ?side1 A20.out).mono ?_); (case side1 => exact TabW.below HTb.out (by repeat (first | (with_reducible first | exact HB.out | apply below_alloc | apply pw_below_drewN | apply below_drew1) | exact HB.out))); rintro e w53 ⟨v210, rfl, ho0, hb⟩; have n0_ := Aside0.mk (Kd.R_lower ho0 (below_size (by repeat (first | (with_reducible first | exact HB.out | apply below_alloc | apply pw_below_drewN | apply below_drew1) | exact HB.out)))); have n1_ := Aside0.mk (below_step (by repeat (first | (with_reducible first | exact HB.out | apply below_alloc | apply pw_below_drewN | apply below_drew1) | exact HB.out)) hb); clear HB; have HO211 := n0_; have HB := n1_; clear n0_ n1_; (try clear hb); (try clear hb2); (try clear hk); (try clear hi); (try clear ho0)))
    have n0_ := Aside0.mk (Kd.R_drew HO211.out)
    have n1_ := Aside0.mk (below_drew1 HB.out)
    clear HO211
    clear HB
    have HO211 := n0_
    have HB := n1_
    clear n0_ n1_
    refine start_ (n := 13) (S := fun w' => True) (ds := []) #[false, false, false, false, false, false, false, false, false, false, false, false, false] (by kernel_rfl) rfl rfl trivial (fun hHeld => ?_); refine with_tabW clewlaw16_PackShort.tab9 clewlaw16_PackShort.bits9 (fun HT_ HW_ => ?_)
    generalize w53.drew = w54 at HO211 HB hHeld ⊢
    refine pure_ (i := 0) (N := some 57) (v := ?_) (a' := ?_) #[true, false, false, false, false, false, false, false, false, false, false, false, false] rfl rfl (any_of HT_.out (by kernel_rfl)) (fun _ _ _ h => h) (Or.inl ⟨by rfl, ?_⟩) ?_ ?_
    rotate_left
    · intro w'
      go_simp
      with_reducible rfl
    rotate_left
    · simp only [Act.put, List.setIfInBounds_toArray, List.set_cons_zero, List.set_cons_succ, i64_w, i32_w]
      rfl
    refine pure_ (i := 1) (N := some 58) (v := ?_) (a' := ?_) #[true, true, false, false, false, false, false, false, false, false, false, false, false] rfl rfl (any_of HT_.out (by kernel_rfl)) (fun _ _ _ h => h) (Or.inl ⟨by rfl, ?_⟩) ?_ ?_
    rotate_left
    · intro w'
      go_simp
      with_reducible rfl
    rotate_left
    · simp only [Act.put, List.setIfInBounds_toArray, List.set_cons_zero, List.set_cons_succ, i64_w, i32_w]
      rfl
    refine pure_ (i := 2) (N := some 59) (v := ?_) (a' := ?_) #[true, true, true, false, false, false, false, false, false, false, false, false, false] rfl rfl (any_of HT_.out (by kernel_rfl)) (fun _ _ _ h => h) (Or.inl ⟨by rfl, ?_⟩) ?_ ?_
    rotate_left
    · intro w'
      go_simp
      with_reducible rfl
    rotate_left
    · simp only [Act.put, List.setIfInBounds_toArray, List.set_cons_zero, List.set_cons_succ, i64_w, i32_w]
      rfl
    refine pure_ (i := 3) (N := some 60) (v := ?_) (a' := ?_) #[true, true, true, true, false, false, false, false, false, false, false, false, false] rfl rfl (any_of HT_.out (by kernel_rfl)) (fun _ _ _ h => h) (Or.inl ⟨by rfl, ?_⟩) ?_ ?_
    rotate_left
    · intro w'
      go_simp
      with_reducible rfl
    rotate_left
    · simp only [Act.put, List.setIfInBounds_toArray, List.set_cons_zero, List.set_cons_succ, i64_w, i32_w]
      rfl
    refine pure_ (i := 4) (N := some 61) (v := ?_) (a' := ?_) #[true, true, true, true, true, false, false, false, false, false, false, false, false] rfl rfl (any_of HT_.out (by kernel_rfl)) (fun _ _ _ h => h) (Or.inl ⟨by rfl, ?_⟩) ?_ ?_
    rotate_left
    · intro w'
      go_simp
      with_reducible rfl
    rotate_left
    · simp only [Act.put, List.setIfInBounds_toArray, List.set_cons_zero, List.set_cons_succ, i64_w, i32_w]
      rfl
    refine pure_ (i := 5) (N := some 62) (v := ?_) (a' := ?_) #[true, true, true, true, true, true, false, false, false, false, false, false, false] rfl rfl (any_of HT_.out (by kernel_rfl)) (fun _ _ _ h => h) (Or.inl ⟨by rfl, ?_⟩) ?_ ?_
    rotate_left
    · intro w'
      go_simp
      with_reducible rfl
    rotate_left
    · simp only [Act.put, List.setIfInBounds_toArray, List.set_cons_zero, List.set_cons_succ, i64_w, i32_w]
      rfl
    refine pure_ (i := 6) (N := some 63) (v := ?_) (a' := ?_) #[true, true, true, true, true, true, true, false, false, false, false, false, false] rfl rfl (any_of HT_.out (by kernel_rfl)) (fun _ _ _ h => h) (Or.inl ⟨by rfl, ?_⟩) ?_ ?_
    rotate_left
    · intro w'
      go_simp
      with_reducible rfl
    rotate_left
    · simp only [Act.put, List.setIfInBounds_toArray, List.set_cons_zero, List.set_cons_succ, i64_w, i32_w]
      rfl
    refine pure_ (i := 7) (N := some 64) (v := ?_) (a' := ?_) #[true, true, true, true, true, true, true, true, false, false, false, false, false] rfl rfl (any_of HT_.out (by kernel_rfl)) (fun _ _ _ h => h) (Or.inl ⟨by rfl, ?_⟩) ?_ ?_
    rotate_left
    · intro w'
      go_simp
      with_reducible rfl
    rotate_left
    · simp only [Act.put, List.setIfInBounds_toArray, List.set_cons_zero, List.set_cons_succ, i64_w, i32_w]
      rfl
    refine pure_ (i := 8) (N := some 65) (v := ?_) (a' := ?_) #[true, true, true, true, true, true, true, true, true, false, false, false, false] rfl rfl (any_of HT_.out (by kernel_rfl)) (fun _ _ _ h => h) (Or.inl ⟨by rfl, ?_⟩) ?_ ?_
    rotate_left
    · intro w'
      go_simp
      with_reducible rfl
    rotate_left
    · simp only [Act.put, List.setIfInBounds_toArray, List.set_cons_zero, List.set_cons_succ, i64_w, i32_w]
      rfl
    refine pure_ (i := 9) (N := some 66) (v := ?_) (a' := ?_) #[true, true, true, true, true, true, true, true, true, true, false, false, false] rfl rfl (any_of HT_.out (by kernel_rfl)) (fun _ _ _ h => h) (Or.inl ⟨by rfl, ?_⟩) ?_ ?_
    rotate_left
    · intro w'
      go_simp
      with_reducible rfl
    rotate_left
    · simp only [Act.put, List.setIfInBounds_toArray, List.set_cons_zero, List.set_cons_succ, i64_w, i32_w]
      rfl
    refine one_ (i := 10) (N := some 67) #[true, true, true, true, true, true, true, true, true, true, true, false, false] rfl rfl (one_of HT_.out (by kernel_rfl)) (by decide) (fun K hK => ?_)
    refine goes_ Tryd.func9 (by kernel_rfl) rfl #[.string (t205.extract 0 ((ji24) : Int).toNat)] (by rfl) rfl rfl (by (try simp only [List.map_toArray, List.map_cons, List.map_nil]); first | done | (simp only [hji24]; rfl) | rfl | (simp only [List.length_drop, List.length_take]; rfl)) ?_
    with_reducible refine (crc_Seal.calls (t205.extract 0 ((ji24) : Int).toNat) t212 _ ?side1 A27.out).mono ?_
    (case side1 => exact TabW.below HTb.out (by repeat (first | (with_reducible first | exact HB.out | apply below_alloc | apply pw_below_drewN | apply below_drew1) | exact HB.out)))
    rintro e w55 ⟨rfl, hb⟩
    refine ⟨_, rfl, ?_⟩
    have n0_ := Aside0.mk (Kd.R_below (by (with_reducible repeat (first | apply Kd.R_alloc | apply Kd.R_drewN | apply Kd.R_drew)); exact HO211.out) hb)
    have n1_ := Aside0.mk (below_step (by repeat (first | (with_reducible first | exact HB.out | apply below_alloc | apply pw_below_drewN | apply below_drew1) | exact HB.out)) hb)
    clear HO211
    clear HB
    have HO211 := n0_
    have HB := n1_
    clear n0_ n1_
    (try clear hb)
    (try clear hb2)
    (try clear hk)
    (try clear hi)
    refine hK.out _ _ trivial (fun hHeld => ?_)
    clear hK K
    refine norm_ (a' := ?_) ?_ ?_
    rotate_left
    · show Act.put _ (some 67) _ = _
      simp only [Act.put, List.setIfInBounds_toArray, List.set_cons_zero, List.set_cons_succ, i64_w, i32_w]
      rfl
    refine pure_ (i := 11) (N := some 12) (v := ?_) (a' := ?_) #[true, true, true, true, true, true, true, true, true, true, true, true, false] rfl rfl (any_of HT_.out (by kernel_rfl)) (fun _ _ _ h => h) (Or.inl ⟨by rfl, ?_⟩) ?_ ?_
    rotate_left
    · intro w'
      go_simp
      with_reducible rfl
    rotate_left
    · simp only [Act.put, List.setIfInBounds_toArray, List.set_cons_zero, List.set_cons_succ, i64_w, i32_w]
      rfl
    refine pure_ (i := 12) (N := some 13) (v := ?_) (a' := ?_) #[true, true, true, true, true, true, true, true, true, true, true, true, true] rfl rfl (any_of HT_.out (by kernel_rfl)) (fun _ _ _ h => h) (Or.inl ⟨by rfl, ?_⟩) ?_ ?_
    rotate_left
    · intro w'
      go_simp
      with_reducible rfl
    rotate_left
    · simp only [Act.put, List.setIfInBounds_toArray, List.set_cons_zero, List.set_cons_succ, i64_w, i32_w]
      rfl
    refine done_ (done_of HT_.out (by kernel_rfl)) ?_
    try go_wp2_with (first | ((with_reducible refine gate_callee (f := 7) rfl ?_); refine goesL_ (some 70) rfl rfl Tryd.func7 (by kernel_rfl) rfl #[.string (t205.extract 0 i)] rfl (by (try simp only [List.map_toArray, List.map_cons, List.map_nil]); first | done | (simp only [hji21]; rfl) | rfl | (simp only [List.length_drop, List.length_take]; rfl)) ?_; (with_reducible refine (pack_Decode.calls k (t205.extract 0 i) t213 t214 _ ?side1 A28.out).mono ?_); (case side1 => exact TabW.below HTb.out (by repeat (first | (with_reducible first | exact HB.out | apply below_alloc | apply pw_below_drewN | apply below_drew1) | exact HB.out))); rintro e w56 ⟨v215, rfl, ho0, hb⟩; refine ⟨_, rfl, ?_⟩; have n0_ := Aside0.mk (Kd.R_elder' (by (with_reducible repeat (first | apply Kd.R_alloc | apply Kd.R_drewN | apply Kd.R_drew)); exact HO211.out) (Kd.R_base ho0) hb); have n1_ := Aside0.mk (Kd.R_lower (Kd.R_new' ho0 (Kd.R_lt (by (with_reducible repeat (first | apply Kd.R_alloc | apply Kd.R_drewN | apply Kd.R_drew)); exact HO211.out))) (below_size (by repeat (first | (with_reducible first | exact HB.out | apply below_alloc | apply pw_below_drewN | apply below_drew1) | exact HB.out)))); have n2_ := Aside0.mk (below_step (by repeat (first | (with_reducible first | exact HB.out | apply below_alloc | apply pw_below_drewN | apply below_drew1) | exact HB.out)) hb); clear HO211; clear HB; have HO211 := n0_; have HO216 := n1_; have HB := n2_; clear n0_ n1_ n2_; (try clear hb); (try clear hb2); (try clear hk); (try clear hi); (try clear ho0)) | (go_at_call 7; (with_reducible refine (pack_Decode.calls k (t205.extract 0 i) t213 t214 _ ?side1 A28.out).mono ?_); (case side1 => exact TabW.below HTb.out (by repeat (first | (with_reducible first | exact HB.out | apply below_alloc | apply pw_below_drewN | apply below_drew1) | exact HB.out))); rintro e w56 ⟨v215, rfl, ho0, hb⟩; have n0_ := Aside0.mk (Kd.R_elder' (by (with_reducible repeat (first | apply Kd.R_alloc | apply Kd.R_drewN | apply Kd.R_drew)); exact HO211.out) (Kd.R_base ho0) hb); have n1_ := Aside0.mk (Kd.R_lower (Kd.R_new' ho0 (Kd.R_lt (by (with_reducible repeat (first | apply Kd.R_alloc | apply Kd.R_drewN | apply Kd.R_drew)); exact HO211.out))) (below_size (by repeat (first | (with_reducible first | exact HB.out | apply below_alloc | apply pw_below_drewN | apply below_drew1) | exact HB.out)))); have n2_ := Aside0.mk (below_step (by repeat (first | (with_reducible first | exact HB.out | apply below_alloc | apply pw_below_drewN | apply below_drew1) | exact HB.out)) hb); clear HO211; clear HB; have HO211 := n0_; have HO216 := n1_; have HB := n2_; clear n0_ n1_ n2_; (try clear hb); (try clear hb2); (try clear hk); (try clear hi); (try clear ho0)) | ((with_reducible refine gate_callee (f := 7) rfl ?_); refine goesL_ (some 75) rfl rfl Tryd.func7 (by kernel_rfl) rfl #[.string t212] rfl (by (try simp only [List.map_toArray, List.map_cons, List.map_nil]); first | done | rfl | (simp only [List.length_drop, List.length_take]; rfl)) ?_; (with_reducible refine (pack_Decode.calls k t212 t217 t218 _ ?side1 A29.out).mono ?_); (case side1 => exact TabW.below HTb.out (by repeat (first | (with_reducible first | exact HB.out | apply below_alloc | apply pw_below_drewN | apply below_drew1) | exact HB.out))); rintro e w57 ⟨v219, rfl, ho0, hb⟩; refine ⟨_, rfl, ?_⟩; have n0_ := Aside0.mk (Kd.R_elder' (by (with_reducible repeat (first | apply Kd.R_alloc | apply Kd.R_drewN | apply Kd.R_drew)); exact HO211.out) (Kd.R_base ho0) hb); have n1_ := Aside0.mk (Kd.R_elder' (by (with_reducible repeat (first | apply Kd.R_alloc | apply Kd.R_drewN | apply Kd.R_drew)); exact HO216.out) (Kd.R_base ho0) hb); have n2_ := Aside0.mk (Kd.R_lower (Kd.R_new' (Kd.R_new' ho0 (Kd.R_lt (by (with_reducible repeat (first | apply Kd.R_alloc | apply Kd.R_drewN | apply Kd.R_drew)); exact HO211.out))) (Kd.R_lt (by (with_reducible repeat (first | apply Kd.R_alloc | apply Kd.R_drewN | apply Kd.R_drew)); exact HO216.out))) (below_size (by repeat (first | (with_reducible first | exact HB.out | apply below_alloc | apply pw_below_drewN | apply below_drew1) | exact HB.out)))); have n3_ := Aside0.mk (below_step (by repeat (first | (with_reducible first | exact HB.out | apply below_alloc | apply pw_below_drewN | apply below_drew1) | exact HB.out)) hb); clear HO211; clear HO216; clear HB; have HO211 := n0_; have HO216 := n1_; have HO220 := n2_; have HB := n3_; clear n0_ n1_ n2_ n3_; (try clear hb); (try clear hb2); (try clear hk); (try clear hi); (try clear ho0); obtain ⟨Ao58, co58, eo58⟩ := Kd.R_slice HO211.out; subst eo58) | (go_at_call 7; (with_reducible refine (pack_Decode.calls k t212 t217 t218 _ ?side1 A29.out).mono ?_); (case side1 => exact TabW.below HTb.out (by repeat (first | (with_reducible first | exact HB.out | apply below_alloc | apply pw_below_drewN | apply below_drew1) | exact HB.out))); rintro e w57 ⟨v219, rfl, ho0, hb⟩; have n0_ := Aside0.mk (Kd.R_elder' (by (with_reducible repeat (first | apply Kd.R_alloc | apply Kd.R_drewN | apply Kd.R_drew)); exact HO211.out) (Kd.R_base ho0) hb); have n1_ := Aside0.mk (Kd.R_elder' (by (with_reducible repeat (first | apply Kd.R_alloc | apply Kd.R_drewN | apply Kd.R_drew)); exact HO216.out) (Kd.R_base ho0) hb); have n2_ := Aside0.mk (Kd.R_lower (Kd.R_new' (Kd.R_new' ho0 (Kd.R_lt (by (with_reducible repeat (first | apply Kd.R_alloc | apply Kd.R_drewN | apply Kd.R_drew)); exact HO211.out))) (Kd.R_lt (by (with_reducible repeat (first | apply Kd.R_alloc | apply Kd.R_drewN | apply Kd.R_drew)); exact HO216.out))) (below_size (by repeat (first | (with_reducible first | exact HB.out | apply below_alloc | apply pw_below_drewN | apply below_drew1) | exact HB.out)))); have n3_ := Aside0.mk (below_step (by repeat (first | (with_reducible first | exact HB.out | apply below_alloc | apply pw_below_drewN | apply below_drew1) | exact HB.out)) hb); clear HO211; clear HO216; clear HB; have HO211 := n0_; have HO216 := n1_; have HO220 := n2_; have HB := n3_; clear n0_ n1_ n2_ n3_; (try clear hb); (try clear hb2); (try clear hk); (try clear hi); (try clear ho0); obtain ⟨Ao58, co58, eo58⟩ := Kd.R_slice HO211.out; subst eo58) | (go_at_call 14; (with_reducible refine (clewlaw16_fixed.calls k  t221 _ ?side1 A50.out).mono ?_); (case side1 => exact TabW.below HTb.out (by repeat (first | (with_reducible first | exact HB.out | apply below_alloc | apply pw_below_drewN | apply below_drew1) | exact HB.out))); rintro e w59 ⟨rfl, hb⟩; have n0_ := Aside0.mk (Kd.R_below (by (with_reducible repeat (first | apply Kd.R_alloc | apply Kd.R_drewN | apply Kd.R_drew)); exact HO211.out) hb); have n1_ := Aside0.mk (Kd.R_below (by (with_reducible repeat (first | apply Kd.R_alloc | apply Kd.R_drewN | apply Kd.R_drew)); exact HO216.out) hb); have n2_ := Aside0.mk (Kd.R_below (by (with_reducible repeat (first | apply Kd.R_alloc | apply Kd.R_drewN | apply Kd.R_drew)); exact HO220.out) hb); have n3_ := Aside0.mk (below_step (by repeat (first | (with_reducible first | exact HB.out | apply below_alloc | apply pw_below_drewN | apply below_drew1) | exact HB.out)) hb); clear HO211; clear HO216; clear HO220; clear HB; have HO211 := n0_; have HO216 := n1_; have HO220 := n2_; have HB := n3_; clear n0_ n1_ n2_ n3_; (try clear hb); (try clear hb2); (try clear hk); (try clear hi)))
    go_ret
    exact ⟨by first | rfl | (simp [errW_none, errW_some] <;> rfl) | (simp only [← hji4, ← hji21, ← hji24]; first | rfl | (simp [errW_none, errW_some] <;> rfl)) | (simp [*, errW_none, errW_some] <;> rfl), by repeat (first | (with_reducible first | exact HB.out | apply below_alloc | apply pw_below_drewN | apply below_drew1) | exact HB.out)⟩
end Go.Proofs.YtamalmopbncibaaDoor.PK
