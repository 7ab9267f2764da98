-- Written by wip/tools/xprint.py of this session, over the kit's print.
import Derived.Test.YtamalmopbncibaaDoorPKx0
import Derived.Test.YtamalmopbncibaaDoorPKx1
import Derived.Test.YtamalmopbncibaaDoorPKx3
import Derived.Test.YtamalmopbncibaaDoorPKx4
import Derived.Test.YtamalmopbncibaaDoorHEncode
namespace Go.Proofs.YtamalmopbncibaaDoor.PK
open Go.RowKit Go.Proofs.YtamalmopbncibaaDoorW.PrintWords Go.Proofs.YtamalmopbncibaaDoorW.PrintLast Go.Proofs.YtamalmopbncibaaDoorW.PrintMore
attribute [local go_sem] max2_int min2_int max_two min_two max_three min_three max_four min_four   -- for this text's walks alone
set_option linter.unusedVariables false
set_option linter.unusedSimpArgs false

attribute [local go_sem high] eqA43
/-! ### clewlaw16_fixed: function 14 -/
def clewlaw16_fixed.f (k : Nat)  : Option (Bool) := (some (([(⟨0, 3⟩ : S43), (⟨1, 0⟩ : S43), (⟨3, 0⟩ : S43)] : List (S43)) : List (S43))).bind fun y199 => ((pack_Encode.f k y199).bind fun t202 => ((pack_Decode.f k t202).bind fun bt203 => ((pack_Decode.f k (⟨#[97, 98]⟩ : ByteArray)).bind fun bt207 => ((pack_Decode.f k (⟨#[97, 98, 99, 100]⟩ : ByteArray)).bind fun bt211 => ((crc_Seal.f (⟨#[67, 76, 79, 87, 0]⟩ : ByteArray)).bind fun t215 => ((pack_Decode.f k t215).bind fun bt216 => ((crc_Seal.f (⟨#[67, 76, 69, 87, 1]⟩ : ByteArray)).bind fun t220 => ((pack_Decode.f k t220).bind fun bt221 => ((crc_Seal.f (⟨#[67, 76, 69, 87, 0, 120]⟩ : ByteArray)).bind fun t225 => ((pack_Decode.f k t225).bind fun bt226 => ((crc_Seal.f (⟨#[67, 76, 69, 87, 194, 16, 0, 1]⟩ : ByteArray)).bind fun t230 => ((pack_Decode.f k t230).bind fun bt231 => ((crc_Seal.f (⟨#[67, 76, 69, 87, 1, 2]⟩ : ByteArray)).bind fun t235 => ((pack_Decode.f k t235).bind fun bt236 => (if (bt203.1.length : Int) = 3 then ((crc_Seal.f (⟨#[67, 76, 69, 87, 3, 18, 1, 3]⟩ : ByteArray)).bind fun t240 => (if t202.toList = t240.toList then (if bt203.2 = 0 then (if 0 < (bt203.1.length : Int) then (if 0 < (y199.length : Int) then (if (((rd_T43 bt203.1 0).f0) == ((rd_T43 y199 0).f0) && (((rd_T43 bt203.1 0).f1) == ((rd_T43 y199 0).f1))) = true then (if 1 < (bt203.1.length : Int) then (if 1 < (y199.length : Int) then (if (((rd_T43 bt203.1 1).f0) == ((rd_T43 y199 1).f0) && (((rd_T43 bt203.1 1).f1) == ((rd_T43 y199 1).f1))) = true then (if 2 < (bt203.1.length : Int) then (if 2 < (y199.length : Int) then (if (((rd_T43 bt203.1 2).f0) == ((rd_T43 y199 2).f0) && (((rd_T43 bt203.1 2).f1) == ((rd_T43 y199 2).f1))) = true then (if bt207.2 = 2 then (if bt211.2 = 8 then (if bt216.2 = 3 then (if bt221.2 = 2 then (if bt226.2 = 3 then (if bt231.2 = 4 then (if bt236.2 = 3 then (if 2 ≤ (y199.length : Int) then ((pack_Encode.f k (y199.drop 2)).bind fun t251 => (if t251.toList = ([] : List UInt8) then ((pack_Encode.f k ([] : List (S43))).bind fun t252 => ((crc_Seal.f (⟨#[67, 76, 69, 87, 0]⟩ : ByteArray)).bind fun t253 => (some (t252.toList == t253.toList)))) else (none))) else (none)) else (none)) else (none)) else (none)) else (none)) else (none)) else (none)) else (none)) else (none)) else (none)) else (none)) else (none)) else (none)) else (none)) else (none)) else (none)) else (none)) else (none)) else (none))) else (none))))))))))))))))
theorem clewlaw16_fixed.mono : ∀ k, LeO (clewlaw16_fixed.f k ) (clewlaw16_fixed.f (k + 1) ) := by
  intro  k
  unfold clewlaw16_fixed.f
  repeat' first
      | (with_reducible exact pack_Decode.mono _ _)
      | (with_reducible exact pack_Encode.mono _ _)
      | (with_reducible exact LeO.refl _)
      | (with_reducible exact LeO.none _)
      | (with_reducible refine LeO.ite ?_ ?_)
      | (with_reducible refine LeO.bind ?_ (fun _ => ?_))
      | exact pack_Decode.mono _ _
      | exact pack_Encode.mono _ _
      | exact LeO.none _
      | refine LeO.ite ?_ ?_
      | refine LeO.bind ?_ (fun _ => ?_)
def clewlaw16_fixed.T13 : Bool × List (List Nat × List Nat) := (true, [([], []), ([], []), ([0, 1], [0, 1]), ([2, 1], [2]), ([3], [3]), ([4, 3], [3, 4]), ([3, 5], [3, 5]), ([6, 3], [6]), ([7], [7]), ([8, 7], [7, 8]), ([9, 7], [7, 9]), ([7], [7]), ([11, 7], [7, 11]), ([12, 7], [7, 12]), ([10, 13, 7], [7, 10, 13]), ([7, 14], [7, 14]), ([15, 7], [15]), ([16], [16]), ([17, 16], [16, 17]), ([18, 16], [16, 18]), ([16], [16]), ([20, 16], [16, 20]), ([21, 16], [16, 21]), ([19, 22, 16], [16, 19, 22]), ([16, 23], [16, 23]), ([24, 16], [24]), ([25], [25]), ([26, 25], [25, 26]), ([27, 25], [25, 27]), ([25], [25]), ([29, 25], [25, 29]), ([30, 25], [25, 30]), ([28, 31, 25], [25, 28, 31]), ([25, 32], [25, 32]), ([33, 25], [33]), ([34], [34]), ([35, 34], [34, 35]), ([34, 36], [34, 36]), ([37, 34], [37]), ([38], [38]), ([39, 38], [38, 39]), ([38, 40], [38, 40]), ([41, 38], [41]), ([42], [42]), ([43, 42], [42, 43]), ([42, 44], [42, 44]), ([45, 42], [45]), ([46], [46]), ([47, 46], [46, 47]), ([46, 48], [46, 48]), ([49, 46], [49]), ([50], [50]), ([51, 50], [50, 51]), ([50, 52], [50, 52]), ([53, 50], [53]), ([54], [54]), ([55, 54], [54, 55]), ([54, 56], [54, 56]), ([57, 54], [57]), ([58], [58]), ([59, 58], [58, 59]), ([58, 60], [58, 60]), ([61, 58], [61]), ([62], [62]), ([63, 62], [62, 63]), ([64, 62, 62], [62, 64]), ([65, 62], [62, 65]), ([62, 66], [62, 66]), ([67, 65], [67]), ([68, 68], [68]), ([69, 68], [68]), ([69, 70, 68], [68, 69, 70]), ([68, 71], [68, 71]), ([72, 70, 0, 1, 2, 3, 4, 5, 6, 7, 8, 9, 10, 11, 12, 13, 14, 15, 16, 17, 18, 19, 20, 21, 22, 23, 24, 25, 26, 27, 28, 29, 30, 31, 32, 33, 34, 35, 36, 37, 38, 39, 40, 41, 42, 43, 44, 45, 46, 47, 48, 49, 50, 51, 52, 53, 54, 55, 56, 57, 58, 59, 60, 61, 62, 63, 64, 65, 66, 67, 68, 69, 70, 71, 72], [72])])
def clewlaw16_fixed.B13 : List Nat := [0, 0, 3, 7, 15, 31, 63, 127, 255, 511, 1023, 255, 2303, 6399, 16383, 32767, 65535, 131071, 262143, 524287, 131071, 1179647, 3276799, 8388607, 16777215, 33554431, 67108863, 134217727, 268435455, 67108863, 603979775, 1677721599, 4294967295, 8589934591, 17179869183, 34359738367, 68719476735, 137438953471, 274877906943, 549755813887, 1099511627775, 2199023255551, 4398046511103, 8796093022207, 17592186044415, 35184372088831, 70368744177663, 140737488355327, 281474976710655, 562949953421311, 1125899906842623, 2251799813685247, 4503599627370495, 9007199254740991, 18014398509481983, 36028797018963967, 72057594037927935, 144115188075855871, 288230376151711743, 576460752303423487, 1152921504606846975, 2305843009213693951, 4611686018427387903, 9223372036854775807, 18446744073709551615, 36893488147419103231, 73786976294838206463, 147573952589676412927, 295147905179352825855, 590295810358705651711, 1180591620717411303423, 2361183241434822606847, 4722366482869645213695, 9444732965739290427391]
theorem clewlaw16_fixed.tab13 : rtab .any (opsOf Tryd.f14 13) = clewlaw16_fixed.T13 := by kernel_rfl
theorem clewlaw16_fixed.bits13 : waitsOk clewlaw16_fixed.T13.2 clewlaw16_fixed.B13 = true := by kernel_rfl
set_option maxHeartbeats 8000000 in
set_option maxRecDepth 100000 in
theorem clewlaw16_fixed.calls (k : Nat)  (r : Bool) (w : World) (hTab : TabW w) (h : clewlaw16_fixed.f k  = some r) :
    Calls Tryd.prog 14 #[] w fun e w' => e = .returned (.bool r) ∧ Below w.heap.size w w' := by
  have hu43 := Tryd.underlying43
  have HB := Aside0.mk (Below.refl w.heap.size w)
  have HTb := Aside0.mk hTab
  clear hTab
  have H : ((some (([(⟨0, 3⟩ : S43), (⟨1, 0⟩ : S43), (⟨3, 0⟩ : S43)] : List (S43)) : List (S43))).bind fun y199 => ((pack_Encode.f k y199).bind fun t202 => ((pack_Decode.f k t202).bind fun bt203 => ((pack_Decode.f k (⟨#[97, 98]⟩ : ByteArray)).bind fun bt207 => ((pack_Decode.f k (⟨#[97, 98, 99, 100]⟩ : ByteArray)).bind fun bt211 => ((crc_Seal.f (⟨#[67, 76, 79, 87, 0]⟩ : ByteArray)).bind fun t215 => ((pack_Decode.f k t215).bind fun bt216 => ((crc_Seal.f (⟨#[67, 76, 69, 87, 1]⟩ : ByteArray)).bind fun t220 => ((pack_Decode.f k t220).bind fun bt221 => ((crc_Seal.f (⟨#[67, 76, 69, 87, 0, 120]⟩ : ByteArray)).bind fun t225 => ((pack_Decode.f k t225).bind fun bt226 => ((crc_Seal.f (⟨#[67, 76, 69, 87, 194, 16, 0, 1]⟩ : ByteArray)).bind fun t230 => ((pack_Decode.f k t230).bind fun bt231 => ((crc_Seal.f (⟨#[67, 76, 69, 87, 1, 2]⟩ : ByteArray)).bind fun t235 => ((pack_Decode.f k t235).bind fun bt236 => (if (bt203.1.length : Int) = 3 then ((crc_Seal.f (⟨#[67, 76, 69, 87, 3, 18, 1, 3]⟩ : ByteArray)).bind fun t240 => (if t202.toList = t240.toList then (if bt203.2 = 0 then (if 0 < (bt203.1.length : Int) then (if 0 < (y199.length : Int) then (if (((rd_T43 bt203.1 0).f0) == ((rd_T43 y199 0).f0) && (((rd_T43 bt203.1 0).f1) == ((rd_T43 y199 0).f1))) = true then (if 1 < (bt203.1.length : Int) then (if 1 < (y199.length : Int) then (if (((rd_T43 bt203.1 1).f0) == ((rd_T43 y199 1).f0) && (((rd_T43 bt203.1 1).f1) == ((rd_T43 y199 1).f1))) = true then (if 2 < (bt203.1.length : Int) then (if 2 < (y199.length : Int) then (if (((rd_T43 bt203.1 2).f0) == ((rd_T43 y199 2).f0) && (((rd_T43 bt203.1 2).f1) == ((rd_T43 y199 2).f1))) = true then (if bt207.2 = 2 then (if bt211.2 = 8 then (if bt216.2 = 3 then (if bt221.2 = 2 then (if bt226.2 = 3 then (if bt231.2 = 4 then (if bt236.2 = 3 then (if 2 ≤ (y199.length : Int) then ((pack_Encode.f k (y199.drop 2)).bind fun t251 => (if t251.toList = ([] : List UInt8) then ((pack_Encode.f k ([] : List (S43))).bind fun t252 => ((crc_Seal.f (⟨#[67, 76, 69, 87, 0]⟩ : ByteArray)).bind fun t253 => (some (t252.toList == t253.toList)))) else (none))) else (none)) else (none)) else (none)) else (none)) else (none)) else (none)) else (none)) else (none)) else (none)) else (none)) else (none)) else (none)) else (none)) else (none)) else (none)) else (none)) else (none)) else (none)) else (none))) else (none))))))))))))))))) = some r := h
  clear h
  obtain ⟨y199, hy199⟩ : ∃ y_ : List (S43), y_ = (([(⟨0, 3⟩ : S43), (⟨1, 0⟩ : S43), (⟨3, 0⟩ : S43)] : List (S43))) := ⟨_, rfl⟩
  replace H : ((pack_Encode.f k y199).bind fun t202 => ((pack_Decode.f k t202).bind fun bt203 => ((pack_Decode.f k (⟨#[97, 98]⟩ : ByteArray)).bind fun bt207 => ((pack_Decode.f k (⟨#[97, 98, 99, 100]⟩ : ByteArray)).bind fun bt211 => ((crc_Seal.f (⟨#[67, 76, 79, 87, 0]⟩ : ByteArray)).bind fun t215 => ((pack_Decode.f k t215).bind fun bt216 => ((crc_Seal.f (⟨#[67, 76, 69, 87, 1]⟩ : ByteArray)).bind fun t220 => ((pack_Decode.f k t220).bind fun bt221 => ((crc_Seal.f (⟨#[67, 76, 69, 87, 0, 120]⟩ : ByteArray)).bind fun t225 => ((pack_Decode.f k t225).bind fun bt226 => ((crc_Seal.f (⟨#[67, 76, 69, 87, 194, 16, 0, 1]⟩ : ByteArray)).bind fun t230 => ((pack_Decode.f k t230).bind fun bt231 => ((crc_Seal.f (⟨#[67, 76, 69, 87, 1, 2]⟩ : ByteArray)).bind fun t235 => ((pack_Decode.f k t235).bind fun bt236 => (if (bt203.1.length : Int) = 3 then ((crc_Seal.f (⟨#[67, 76, 69, 87, 3, 18, 1, 3]⟩ : ByteArray)).bind fun t240 => (if t202.toList = t240.toList then (if bt203.2 = 0 then (if 0 < (bt203.1.length : Int) then (if 0 < (y199.length : Int) then (if (((rd_T43 bt203.1 0).f0) == ((rd_T43 y199 0).f0) && (((rd_T43 bt203.1 0).f1) == ((rd_T43 y199 0).f1))) = true then (if 1 < (bt203.1.length : Int) then (if 1 < (y199.length : Int) then (if (((rd_T43 bt203.1 1).f0) == ((rd_T43 y199 1).f0) && (((rd_T43 bt203.1 1).f1) == ((rd_T43 y199 1).f1))) = true then (if 2 < (bt203.1.length : Int) then (if 2 < (y199.length : Int) then (if (((rd_T43 bt203.1 2).f0) == ((rd_T43 y199 2).f0) && (((rd_T43 bt203.1 2).f1) == ((rd_T43 y199 2).f1))) = true then (if bt207.2 = 2 then (if bt211.2 = 8 then (if bt216.2 = 3 then (if bt221.2 = 2 then (if bt226.2 = 3 then (if bt231.2 = 4 then (if bt236.2 = 3 then (if 2 ≤ (y199.length : Int) then ((pack_Encode.f k (y199.drop 2)).bind fun t251 => (if t251.toList = ([] : List UInt8) then ((pack_Encode.f k ([] : List (S43))).bind fun t252 => ((crc_Seal.f (⟨#[67, 76, 69, 87, 0]⟩ : ByteArray)).bind fun t253 => (some (t252.toList == t253.toList)))) else (none))) else (none)) else (none)) else (none)) else (none)) else (none)) else (none)) else (none)) else (none)) else (none)) else (none)) else (none)) else (none)) else (none)) else (none)) else (none)) else (none)) else (none)) else (none)) else (none))) else (none)))))))))))))))) = some r := by first | (rw [hy199]; with_reducible exact H) | (have H2_ := (Option.bind_some _ _).symm.trans H; rw [hy199]; with_reducible exact H2_) | (have H2_ := (Option.bind_some _ _).symm.trans H; with_reducible exact H2_) | with_reducible exact H | (rw [hy199]; exact H) | exact H
  have Ny199 := Aside0.mk hy199
  clear hy199
  replace H := Option.bind_eq_some_iff.mp H
  obtain ⟨t202, A10, H⟩ := H
  replace H : ((pack_Decode.f k t202).bind fun bt203 => ((pack_Decode.f k (⟨#[97, 98]⟩ : ByteArray)).bind fun bt207 => ((pack_Decode.f k (⟨#[97, 98, 99, 100]⟩ : ByteArray)).bind fun bt211 => ((crc_Seal.f (⟨#[67, 76, 79, 87, 0]⟩ : ByteArray)).bind fun t215 => ((pack_Decode.f k t215).bind fun bt216 => ((crc_Seal.f (⟨#[67, 76, 69, 87, 1]⟩ : ByteArray)).bind fun t220 => ((pack_Decode.f k t220).bind fun bt221 => ((crc_Seal.f (⟨#[67, 76, 69, 87, 0, 120]⟩ : ByteArray)).bind fun t225 => ((pack_Decode.f k t225).bind fun bt226 => ((crc_Seal.f (⟨#[67, 76, 69, 87, 194, 16, 0, 1]⟩ : ByteArray)).bind fun t230 => ((pack_Decode.f k t230).bind fun bt231 => ((crc_Seal.f (⟨#[67, 76, 69, 87, 1, 2]⟩ : ByteArray)).bind fun t235 => ((pack_Decode.f k t235).bind fun bt236 => (if (bt203.1.length : Int) = 3 then ((crc_Seal.f (⟨#[67, 76, 69, 87, 3, 18, 1, 3]⟩ : ByteArray)).bind fun t240 => (if t202.toList = t240.toList then (if bt203.2 = 0 then (if 0 < (bt203.1.length : Int) then (if 0 < (y199.length : Int) then (if (((rd_T43 bt203.1 0).f0) == ((rd_T43 y199 0).f0) && (((rd_T43 bt203.1 0).f1) == ((rd_T43 y199 0).f1))) = true then (if 1 < (bt203.1.length : Int) then (if 1 < (y199.length : Int) then (if (((rd_T43 bt203.1 1).f0) == ((rd_T43 y199 1).f0) && (((rd_T43 bt203.1 1).f1) == ((rd_T43 y199 1).f1))) = true then (if 2 < (bt203.1.length : Int) then (if 2 < (y199.length : Int) then (if (((rd_T43 bt203.1 2).f0) == ((rd_T43 y199 2).f0) && (((rd_T43 bt203.1 2).f1) == ((rd_T43 y199 2).f1))) = true then (if bt207.2 = 2 then (if bt211.2 = 8 then (if bt216.2 = 3 then (if bt221.2 = 2 then (if bt226.2 = 3 then (if bt231.2 = 4 then (if bt236.2 = 3 then (if 2 ≤ (y199.length : Int) then ((pack_Encode.f k (y199.drop 2)).bind fun t251 => (if t251.toList = ([] : List UInt8) then ((pack_Encode.f k ([] : List (S43))).bind fun t252 => ((crc_Seal.f (⟨#[67, 76, 69, 87, 0]⟩ : ByteArray)).bind fun t253 => (some (t252.toList == t253.toList)))) else (none))) else (none)) else (none)) else (none)) else (none)) else (none)) else (none)) else (none)) else (none)) else (none)) else (none)) else (none)) else (none)) else (none)) else (none)) else (none)) else (none)) else (none)) else (none)) else (none))) else (none))))))))))))))) = some r := H
  have A1 := Aside0.mk A10
  clear A10
  replace H := Option.bind_eq_some_iff.mp H
  obtain ⟨⟨t203, t204⟩, A20, H⟩ := H
  replace H : ((pack_Decode.f k (⟨#[97, 98]⟩ : ByteArray)).bind fun bt207 => ((pack_Decode.f k (⟨#[97, 98, 99, 100]⟩ : ByteArray)).bind fun bt211 => ((crc_Seal.f (⟨#[67, 76, 79, 87, 0]⟩ : ByteArray)).bind fun t215 => ((pack_Decode.f k t215).bind fun bt216 => ((crc_Seal.f (⟨#[67, 76, 69, 87, 1]⟩ : ByteArray)).bind fun t220 => ((pack_Decode.f k t220).bind fun bt221 => ((crc_Seal.f (⟨#[67, 76, 69, 87, 0, 120]⟩ : ByteArray)).bind fun t225 => ((pack_Decode.f k t225).bind fun bt226 => ((crc_Seal.f (⟨#[67, 76, 69, 87, 194, 16, 0, 1]⟩ : ByteArray)).bind fun t230 => ((pack_Decode.f k t230).bind fun bt231 => ((crc_Seal.f (⟨#[67, 76, 69, 87, 1, 2]⟩ : ByteArray)).bind fun t235 => ((pack_Decode.f k t235).bind fun bt236 => (if (t203.length : Int) = 3 then ((crc_Seal.f (⟨#[67, 76, 69, 87, 3, 18, 1, 3]⟩ : ByteArray)).bind fun t240 => (if t202.toList = t240.toList then (if t204 = 0 then (if 0 < (t203.length : Int) then (if 0 < (y199.length : Int) then (if (((rd_T43 t203 0).f0) == ((rd_T43 y199 0).f0) && (((rd_T43 t203 0).f1) == ((rd_T43 y199 0).f1))) = true then (if 1 < (t203.length : Int) then (if 1 < (y199.length : Int) then (if (((rd_T43 t203 1).f0) == ((rd_T43 y199 1).f0) && (((rd_T43 t203 1).f1) == ((rd_T43 y199 1).f1))) = true then (if 2 < (t203.length : Int) then (if 2 < (y199.length : Int) then (if (((rd_T43 t203 2).f0) == ((rd_T43 y199 2).f0) && (((rd_T43 t203 2).f1) == ((rd_T43 y199 2).f1))) = true then (if bt207.2 = 2 then (if bt211.2 = 8 then (if bt216.2 = 3 then (if bt221.2 = 2 then (if bt226.2 = 3 then (if bt231.2 = 4 then (if bt236.2 = 3 then (if 2 ≤ (y199.length : Int) then ((pack_Encode.f k (y199.drop 2)).bind fun t251 => (if t251.toList = ([] : List UInt8) then ((pack_Encode.f k ([] : List (S43))).bind fun t252 => ((crc_Seal.f (⟨#[67, 76, 69, 87, 0]⟩ : ByteArray)).bind fun t253 => (some (t252.toList == t253.toList)))) else (none))) else (none)) else (none)) else (none)) else (none)) else (none)) else (none)) else (none)) else (none)) else (none)) else (none)) else (none)) else (none)) else (none)) else (none)) else (none)) else (none)) else (none)) else (none)) else (none))) else (none)))))))))))))) = some r := H
  have A2 := Aside0.mk A20
  clear A20
  replace H := Option.bind_eq_some_iff.mp H
  obtain ⟨⟨t207, t208⟩, A30, H⟩ := H
  replace H : ((pack_Decode.f k (⟨#[97, 98, 99, 100]⟩ : ByteArray)).bind fun bt211 => ((crc_Seal.f (⟨#[67, 76, 79, 87, 0]⟩ : ByteArray)).bind fun t215 => ((pack_Decode.f k t215).bind fun bt216 => ((crc_Seal.f (⟨#[67, 76, 69, 87, 1]⟩ : ByteArray)).bind fun t220 => ((pack_Decode.f k t220).bind fun bt221 => ((crc_Seal.f (⟨#[67, 76, 69, 87, 0, 120]⟩ : ByteArray)).bind fun t225 => ((pack_Decode.f k t225).bind fun bt226 => ((crc_Seal.f (⟨#[67, 76, 69, 87, 194, 16, 0, 1]⟩ : ByteArray)).bind fun t230 => ((pack_Decode.f k t230).bind fun bt231 => ((crc_Seal.f (⟨#[67, 76, 69, 87, 1, 2]⟩ : ByteArray)).bind fun t235 => ((pack_Decode.f k t235).bind fun bt236 => (if (t203.length : Int) = 3 then ((crc_Seal.f (⟨#[67, 76, 69, 87, 3, 18, 1, 3]⟩ : ByteArray)).bind fun t240 => (if t202.toList = t240.toList then (if t204 = 0 then (if 0 < (t203.length : Int) then (if 0 < (y199.length : Int) then (if (((rd_T43 t203 0).f0) == ((rd_T43 y199 0).f0) && (((rd_T43 t203 0).f1) == ((rd_T43 y199 0).f1))) = true then (if 1 < (t203.length : Int) then (if 1 < (y199.length : Int) then (if (((rd_T43 t203 1).f0) == ((rd_T43 y199 1).f0) && (((rd_T43 t203 1).f1) == ((rd_T43 y199 1).f1))) = true then (if 2 < (t203.length : Int) then (if 2 < (y199.length : Int) then (if (((rd_T43 t203 2).f0) == ((rd_T43 y199 2).f0) && (((rd_T43 t203 2).f1) == ((rd_T43 y199 2).f1))) = true then (if t208 = 2 then (if bt211.2 = 8 then (if bt216.2 = 3 then (if bt221.2 = 2 then (if bt226.2 = 3 then (if bt231.2 = 4 then (if bt236.2 = 3 then (if 2 ≤ (y199.length : Int) then ((pack_Encode.f k (y199.drop 2)).bind fun t251 => (if t251.toList = ([] : List UInt8) then ((pack_Encode.f k ([] : List (S43))).bind fun t252 => ((crc_Seal.f (⟨#[67, 76, 69, 87, 0]⟩ : ByteArray)).bind fun t253 => (some (t252.toList == t253.toList)))) else (none))) else (none)) else (none)) else (none)) else (none)) else (none)) else (none)) else (none)) else (none)) else (none)) else (none)) else (none)) else (none)) else (none)) else (none)) else (none)) else (none)) else (none)) else (none)) else (none))) else (none))))))))))))) = some r := H
  have A3 := Aside0.mk A30
  clear A30
  replace H := Option.bind_eq_some_iff.mp H
  obtain ⟨⟨t211, t212⟩, A40, H⟩ := H
  replace H : ((crc_Seal.f (⟨#[67, 76, 79, 87, 0]⟩ : ByteArray)).bind fun t215 => ((pack_Decode.f k t215).bind fun bt216 => ((crc_Seal.f (⟨#[67, 76, 69, 87, 1]⟩ : ByteArray)).bind fun t220 => ((pack_Decode.f k t220).bind fun bt221 => ((crc_Seal.f (⟨#[67, 76, 69, 87, 0, 120]⟩ : ByteArray)).bind fun t225 => ((pack_Decode.f k t225).bind fun bt226 => ((crc_Seal.f (⟨#[67, 76, 69, 87, 194, 16, 0, 1]⟩ : ByteArray)).bind fun t230 => ((pack_Decode.f k t230).bind fun bt231 => ((crc_Seal.f (⟨#[67, 76, 69, 87, 1, 2]⟩ : ByteArray)).bind fun t235 => ((pack_Decode.f k t235).bind fun bt236 => (if (t203.length : Int) = 3 then ((crc_Seal.f (⟨#[67, 76, 69, 87, 3, 18, 1, 3]⟩ : ByteArray)).bind fun t240 => (if t202.toList = t240.toList then (if t204 = 0 then (if 0 < (t203.length : Int) then (if 0 < (y199.length : Int) then (if (((rd_T43 t203 0).f0) == ((rd_T43 y199 0).f0) && (((rd_T43 t203 0).f1) == ((rd_T43 y199 0).f1))) = true then (if 1 < (t203.length : Int) then (if 1 < (y199.length : Int) then (if (((rd_T43 t203 1).f0) == ((rd_T43 y199 1).f0) && (((rd_T43 t203 1).f1) == ((rd_T43 y199 1).f1))) = true then (if 2 < (t203.length : Int) then (if 2 < (y199.length : Int) then (if (((rd_T43 t203 2).f0) == ((rd_T43 y199 2).f0) && (((rd_T43 t203 2).f1) == ((rd_T43 y199 2).f1))) = true then (if t208 = 2 then (if t212 = 8 then (if bt216.2 = 3 then (if bt221.2 = 2 then (if bt226.2 = 3 then (if bt231.2 = 4 then (if bt236.2 = 3 then (if 2 ≤ (y199.length : Int) then ((pack_Encode.f k (y199.drop 2)).bind fun t251 => (if t251.toList = ([] : List UInt8) then ((pack_Encode.f k ([] : List (S43))).bind fun t252 => ((crc_Seal.f (⟨#[67, 76, 69, 87, 0]⟩ : ByteArray)).bind fun t253 => (some (t252.toList == t253.toList)))) else (none))) else (none)) else (none)) else (none)) else (none)) else (none)) else (none)) else (none)) else (none)) else (none)) else (none)) else (none)) else (none)) else (none)) else (none)) else (none)) else (none)) else (none)) else (none)) else (none))) else (none)))))))))))) = some r := H
  have A4 := Aside0.mk A40
  clear A40
  replace H := Option.bind_eq_some_iff.mp H
  obtain ⟨t215, A50, H⟩ := H
  replace H : ((pack_Decode.f k t215).bind fun bt216 => ((crc_Seal.f (⟨#[67, 76, 69, 87, 1]⟩ : ByteArray)).bind fun t220 => ((pack_Decode.f k t220).bind fun bt221 => ((crc_Seal.f (⟨#[67, 76, 69, 87, 0, 120]⟩ : ByteArray)).bind fun t225 => ((pack_Decode.f k t225).bind fun bt226 => ((crc_Seal.f (⟨#[67, 76, 69, 87, 194, 16, 0, 1]⟩ : ByteArray)).bind fun t230 => ((pack_Decode.f k t230).bind fun bt231 => ((crc_Seal.f (⟨#[67, 76, 69, 87, 1, 2]⟩ : ByteArray)).bind fun t235 => ((pack_Decode.f k t235).bind fun bt236 => (if (t203.length : Int) = 3 then ((crc_Seal.f (⟨#[67, 76, 69, 87, 3, 18, 1, 3]⟩ : ByteArray)).bind fun t240 => (if t202.toList = t240.toList then (if t204 = 0 then (if 0 < (t203.length : Int) then (if 0 < (y199.length : Int) then (if (((rd_T43 t203 0).f0) == ((rd_T43 y199 0).f0) && (((rd_T43 t203 0).f1) == ((rd_T43 y199 0).f1))) = true then (if 1 < (t203.length : Int) then (if 1 < (y199.length : Int) then (if (((rd_T43 t203 1).f0) == ((rd_T43 y199 1).f0) && (((rd_T43 t203 1).f1) == ((rd_T43 y199 1).f1))) = true then (if 2 < (t203.length : Int) then (if 2 < (y199.length : Int) then (if (((rd_T43 t203 2).f0) == ((rd_T43 y199 2).f0) && (((rd_T43 t203 2).f1) == ((rd_T43 y199 2).f1))) = true then (if t208 = 2 then (if t212 = 8 then (if bt216.2 = 3 then (if bt221.2 = 2 then (if bt226.2 = 3 then (if bt231.2 = 4 then (if bt236.2 = 3 then (if 2 ≤ (y199.length : Int) then ((pack_Encode.f k (y199.drop 2)).bind fun t251 => (if t251.toList = ([] : List UInt8) then ((pack_Encode.f k ([] : List (S43))).bind fun t252 => ((crc_Seal.f (⟨#[67, 76, 69, 87, 0]⟩ : ByteArray)).bind fun t253 => (some (t252.toList == t253.toList)))) else (none))) else (none)) else (none)) else (none)) else (none)) else (none)) else (none)) else (none)) else (none)) else (none)) else (none)) else (none)) else (none)) else (none)) else (none)) else (none)) else (none)) else (none)) else (none)) else (none))) else (none))))))))))) = some r := H
  have A5 := Aside0.mk A50
  clear A50
  replace H := Option.bind_eq_some_iff.mp H
  obtain ⟨⟨t216, t217⟩, A60, H⟩ := H
  replace H : ((crc_Seal.f (⟨#[67, 76, 69, 87, 1]⟩ : ByteArray)).bind fun t220 => ((pack_Decode.f k t220).bind fun bt221 => ((crc_Seal.f (⟨#[67, 76, 69, 87, 0, 120]⟩ : ByteArray)).bind fun t225 => ((pack_Decode.f k t225).bind fun bt226 => ((crc_Seal.f (⟨#[67, 76, 69, 87, 194, 16, 0, 1]⟩ : ByteArray)).bind fun t230 => ((pack_Decode.f k t230).bind fun bt231 => ((crc_Seal.f (⟨#[67, 76, 69, 87, 1, 2]⟩ : ByteArray)).bind fun t235 => ((pack_Decode.f k t235).bind fun bt236 => (if (t203.length : Int) = 3 then ((crc_Seal.f (⟨#[67, 76, 69, 87, 3, 18, 1, 3]⟩ : ByteArray)).bind fun t240 => (if t202.toList = t240.toList then (if t204 = 0 then (if 0 < (t203.length : Int) then (if 0 < (y199.length : Int) then (if (((rd_T43 t203 0).f0) == ((rd_T43 y199 0).f0) && (((rd_T43 t203 0).f1) == ((rd_T43 y199 0).f1))) = true then (if 1 < (t203.length : Int) then (if 1 < (y199.length : Int) then (if (((rd_T43 t203 1).f0) == ((rd_T43 y199 1).f0) && (((rd_T43 t203 1).f1) == ((rd_T43 y199 1).f1))) = true then (if 2 < (t203.length : Int) then (if 2 < (y199.length : Int) then (if (((rd_T43 t203 2).f0) == ((rd_T43 y199 2).f0) && (((rd_T43 t203 2).f1) == ((rd_T43 y199 2).f1))) = true then (if t208 = 2 then (if t212 = 8 then (if t217 = 3 then (if bt221.2 = 2 then (if bt226.2 = 3 then (if bt231.2 = 4 then (if bt236.2 = 3 then (if 2 ≤ (y199.length : Int) then ((pack_Encode.f k (y199.drop 2)).bind fun t251 => (if t251.toList = ([] : List UInt8) then ((pack_Encode.f k ([] : List (S43))).bind fun t252 => ((crc_Seal.f (⟨#[67, 76, 69, 87, 0]⟩ : ByteArray)).bind fun t253 => (some (t252.toList == t253.toList)))) else (none))) else (none)) else (none)) else (none)) else (none)) else (none)) else (none)) else (none)) else (none)) else (none)) else (none)) else (none)) else (none)) else (none)) else (none)) else (none)) else (none)) else (none)) else (none)) else (none))) else (none)))))))))) = some r := H
  have A6 := Aside0.mk A60
  clear A60
  replace H := Option.bind_eq_some_iff.mp H
  obtain ⟨t220, A70, H⟩ := H
  replace H : ((pack_Decode.f k t220).bind fun bt221 => ((crc_Seal.f (⟨#[67, 76, 69, 87, 0, 120]⟩ : ByteArray)).bind fun t225 => ((pack_Decode.f k t225).bind fun bt226 => ((crc_Seal.f (⟨#[67, 76, 69, 87, 194, 16, 0, 1]⟩ : ByteArray)).bind fun t230 => ((pack_Decode.f k t230).bind fun bt231 => ((crc_Seal.f (⟨#[67, 76, 69, 87, 1, 2]⟩ : ByteArray)).bind fun t235 => ((pack_Decode.f k t235).bind fun bt236 => (if (t203.length : Int) = 3 then ((crc_Seal.f (⟨#[67, 76, 69, 87, 3, 18, 1, 3]⟩ : ByteArray)).bind fun t240 => (if t202.toList = t240.toList then (if t204 = 0 then (if 0 < (t203.length : Int) then (if 0 < (y199.length : Int) then (if (((rd_T43 t203 0).f0) == ((rd_T43 y199 0).f0) && (((rd_T43 t203 0).f1) == ((rd_T43 y199 0).f1))) = true then (if 1 < (t203.length : Int) then (if 1 < (y199.length : Int) then (if (((rd_T43 t203 1).f0) == ((rd_T43 y199 1).f0) && (((rd_T43 t203 1).f1) == ((rd_T43 y199 1).f1))) = true then (if 2 < (t203.length : Int) then (if 2 < (y199.length : Int) then (if (((rd_T43 t203 2).f0) == ((rd_T43 y199 2).f0) && (((rd_T43 t203 2).f1) == ((rd_T43 y199 2).f1))) = true then (if t208 = 2 then (if t212 = 8 then (if t217 = 3 then (if bt221.2 = 2 then (if bt226.2 = 3 then (if bt231.2 = 4 then (if bt236.2 = 3 then (if 2 ≤ (y199.length : Int) then ((pack_Encode.f k (y199.drop 2)).bind fun t251 => (if t251.toList = ([] : List UInt8) then ((pack_Encode.f k ([] : List (S43))).bind fun t252 => ((crc_Seal.f (⟨#[67, 76, 69, 87, 0]⟩ : ByteArray)).bind fun t253 => (some (t252.toList == t253.toList)))) else (none))) else (none)) else (none)) else (none)) else (none)) else (none)) else (none)) else (none)) else (none)) else (none)) else (none)) else (none)) else (none)) else (none)) else (none)) else (none)) else (none)) else (none)) else (none)) else (none))) else (none))))))))) = some r := H
  have A7 := Aside0.mk A70
  clear A70
  replace H := Option.bind_eq_some_iff.mp H
  obtain ⟨⟨t221, t222⟩, A80, H⟩ := H
  replace H : ((crc_Seal.f (⟨#[67, 76, 69, 87, 0, 120]⟩ : ByteArray)).bind fun t225 => ((pack_Decode.f k t225).bind fun bt226 => ((crc_Seal.f (⟨#[67, 76, 69, 87, 194, 16, 0, 1]⟩ : ByteArray)).bind fun t230 => ((pack_Decode.f k t230).bind fun bt231 => ((crc_Seal.f (⟨#[67, 76, 69, 87, 1, 2]⟩ : ByteArray)).bind fun t235 => ((pack_Decode.f k t235).bind fun bt236 => (if (t203.length : Int) = 3 then ((crc_Seal.f (⟨#[67, 76, 69, 87, 3, 18, 1, 3]⟩ : ByteArray)).bind fun t240 => (if t202.toList = t240.toList then (if t204 = 0 then (if 0 < (t203.length : Int) then (if 0 < (y199.length : Int) then (if (((rd_T43 t203 0).f0) == ((rd_T43 y199 0).f0) && (((rd_T43 t203 0).f1) == ((rd_T43 y199 0).f1))) = true then (if 1 < (t203.length : Int) then (if 1 < (y199.length : Int) then (if (((rd_T43 t203 1).f0) == ((rd_T43 y199 1).f0) && (((rd_T43 t203 1).f1) == ((rd_T43 y199 1).f1))) = true then (if 2 < (t203.length : Int) then (if 2 < (y199.length : Int) then (if (((rd_T43 t203 2).f0) == ((rd_T43 y199 2).f0) && (((rd_T43 t203 2).f1) == ((rd_T43 y199 2).f1))) = true then (if t208 = 2 then (if t212 = 8 then (if t217 = 3 then (if t222 = 2 then (if bt226.2 = 3 then (if bt231.2 = 4 then (if bt236.2 = 3 then (if 2 ≤ (y199.length : Int) then ((pack_Encode.f k (y199.drop 2)).bind fun t251 => (if t251.toList = ([] : List UInt8) then ((pack_Encode.f k ([] : List (S43))).bind fun t252 => ((crc_Seal.f (⟨#[67, 76, 69, 87, 0]⟩ : ByteArray)).bind fun t253 => (some (t252.toList == t253.toList)))) else (none))) else (none)) else (none)) else (none)) else (none)) else (none)) else (none)) else (none)) else (none)) else (none)) else (none)) else (none)) else (none)) else (none)) else (none)) else (none)) else (none)) else (none)) else (none)) else (none))) else (none)))))))) = some r := H
  have A8 := Aside0.mk A80
  clear A80
  replace H := Option.bind_eq_some_iff.mp H
  obtain ⟨t225, A90, H⟩ := H
  replace H : ((pack_Decode.f k t225).bind fun bt226 => ((crc_Seal.f (⟨#[67, 76, 69, 87, 194, 16, 0, 1]⟩ : ByteArray)).bind fun t230 => ((pack_Decode.f k t230).bind fun bt231 => ((crc_Seal.f (⟨#[67, 76, 69, 87, 1, 2]⟩ : ByteArray)).bind fun t235 => ((pack_Decode.f k t235).bind fun bt236 => (if (t203.length : Int) = 3 then ((crc_Seal.f (⟨#[67, 76, 69, 87, 3, 18, 1, 3]⟩ : ByteArray)).bind fun t240 => (if t202.toList = t240.toList then (if t204 = 0 then (if 0 < (t203.length : Int) then (if 0 < (y199.length : Int) then (if (((rd_T43 t203 0).f0) == ((rd_T43 y199 0).f0) && (((rd_T43 t203 0).f1) == ((rd_T43 y199 0).f1))) = true then (if 1 < (t203.length : Int) then (if 1 < (y199.length : Int) then (if (((rd_T43 t203 1).f0) == ((rd_T43 y199 1).f0) && (((rd_T43 t203 1).f1) == ((rd_T43 y199 1).f1))) = true then (if 2 < (t203.length : Int) then (if 2 < (y199.length : Int) then (if (((rd_T43 t203 2).f0) == ((rd_T43 y199 2).f0) && (((rd_T43 t203 2).f1) == ((rd_T43 y199 2).f1))) = true then (if t208 = 2 then (if t212 = 8 then (if t217 = 3 then (if t222 = 2 then (if bt226.2 = 3 then (if bt231.2 = 4 then (if bt236.2 = 3 then (if 2 ≤ (y199.length : Int) then ((pack_Encode.f k (y199.drop 2)).bind fun t251 => (if t251.toList = ([] : List UInt8) then ((pack_Encode.f k ([] : List (S43))).bind fun t252 => ((crc_Seal.f (⟨#[67, 76, 69, 87, 0]⟩ : ByteArray)).bind fun t253 => (some (t252.toList == t253.toList)))) else (none))) else (none)) else (none)) else (none)) else (none)) else (none)) else (none)) else (none)) else (none)) else (none)) else (none)) else (none)) else (none)) else (none)) else (none)) else (none)) else (none)) else (none)) else (none)) else (none))) else (none))))))) = some r := H
  have A9 := Aside0.mk A90
  clear A90
  replace H := Option.bind_eq_some_iff.mp H
  obtain ⟨⟨t226, t227⟩, A100, H⟩ := H
  replace H : ((crc_Seal.f (⟨#[67, 76, 69, 87, 194, 16, 0, 1]⟩ : ByteArray)).bind fun t230 => ((pack_Decode.f k t230).bind fun bt231 => ((crc_Seal.f (⟨#[67, 76, 69, 87, 1, 2]⟩ : ByteArray)).bind fun t235 => ((pack_Decode.f k t235).bind fun bt236 => (if (t203.length : Int) = 3 then ((crc_Seal.f (⟨#[67, 76, 69, 87, 3, 18, 1, 3]⟩ : ByteArray)).bind fun t240 => (if t202.toList = t240.toList then (if t204 = 0 then (if 0 < (t203.length : Int) then (if 0 < (y199.length : Int) then (if (((rd_T43 t203 0).f0) == ((rd_T43 y199 0).f0) && (((rd_T43 t203 0).f1) == ((rd_T43 y199 0).f1))) = true then (if 1 < (t203.length : Int) then (if 1 < (y199.length : Int) then (if (((rd_T43 t203 1).f0) == ((rd_T43 y199 1).f0) && (((rd_T43 t203 1).f1) == ((rd_T43 y199 1).f1))) = true then (if 2 < (t203.length : Int) then (if 2 < (y199.length : Int) then (if (((rd_T43 t203 2).f0) == ((rd_T43 y199 2).f0) && (((rd_T43 t203 2).f1) == ((rd_T43 y199 2).f1))) = true then (if t208 = 2 then (if t212 = 8 then (if t217 = 3 then (if t222 = 2 then (if t227 = 3 then (if bt231.2 = 4 then (if bt236.2 = 3 then (if 2 ≤ (y199.length : Int) then ((pack_Encode.f k (y199.drop 2)).bind fun t251 => (if t251.toList = ([] : List UInt8) then ((pack_Encode.f k ([] : List (S43))).bind fun t252 => ((crc_Seal.f (⟨#[67, 76, 69, 87, 0]⟩ : ByteArray)).bind fun t253 => (some (t252.toList == t253.toList)))) else (none))) else (none)) else (none)) else (none)) else (none)) else (none)) else (none)) else (none)) else (none)) else (none)) else (none)) else (none)) else (none)) else (none)) else (none)) else (none)) else (none)) else (none)) else (none)) else (none))) else (none)))))) = some r := H
  have A10 := Aside0.mk A100
  clear A100
  replace H := Option.bind_eq_some_iff.mp H
  obtain ⟨t230, A110, H⟩ := H
  replace H : ((pack_Decode.f k t230).bind fun bt231 => ((crc_Seal.f (⟨#[67, 76, 69, 87, 1, 2]⟩ : ByteArray)).bind fun t235 => ((pack_Decode.f k t235).bind fun bt236 => (if (t203.length : Int) = 3 then ((crc_Seal.f (⟨#[67, 76, 69, 87, 3, 18, 1, 3]⟩ : ByteArray)).bind fun t240 => (if t202.toList = t240.toList then (if t204 = 0 then (if 0 < (t203.length : Int) then (if 0 < (y199.length : Int) then (if (((rd_T43 t203 0).f0) == ((rd_T43 y199 0).f0) && (((rd_T43 t203 0).f1) == ((rd_T43 y199 0).f1))) = true then (if 1 < (t203.length : Int) then (if 1 < (y199.length : Int) then (if (((rd_T43 t203 1).f0) == ((rd_T43 y199 1).f0) && (((rd_T43 t203 1).f1) == ((rd_T43 y199 1).f1))) = true then (if 2 < (t203.length : Int) then (if 2 < (y199.length : Int) then (if (((rd_T43 t203 2).f0) == ((rd_T43 y199 2).f0) && (((rd_T43 t203 2).f1) == ((rd_T43 y199 2).f1))) = true then (if t208 = 2 then (if t212 = 8 then (if t217 = 3 then (if t222 = 2 then (if t227 = 3 then (if bt231.2 = 4 then (if bt236.2 = 3 then (if 2 ≤ (y199.length : Int) then ((pack_Encode.f k (y199.drop 2)).bind fun t251 => (if t251.toList = ([] : List UInt8) then ((pack_Encode.f k ([] : List (S43))).bind fun t252 => ((crc_Seal.f (⟨#[67, 76, 69, 87, 0]⟩ : ByteArray)).bind fun t253 => (some (t252.toList == t253.toList)))) else (none))) else (none)) else (none)) else (none)) else (none)) else (none)) else (none)) else (none)) else (none)) else (none)) else (none)) else (none)) else (none)) else (none)) else (none)) else (none)) else (none)) else (none)) else (none)) else (none))) else (none))))) = some r := H
  have A11 := Aside0.mk A110
  clear A110
  replace H := Option.bind_eq_some_iff.mp H
  obtain ⟨⟨t231, t232⟩, A120, H⟩ := H
  replace H : ((crc_Seal.f (⟨#[67, 76, 69, 87, 1, 2]⟩ : ByteArray)).bind fun t235 => ((pack_Decode.f k t235).bind fun bt236 => (if (t203.length : Int) = 3 then ((crc_Seal.f (⟨#[67, 76, 69, 87, 3, 18, 1, 3]⟩ : ByteArray)).bind fun t240 => (if t202.toList = t240.toList then (if t204 = 0 then (if 0 < (t203.length : Int) then (if 0 < (y199.length : Int) then (if (((rd_T43 t203 0).f0) == ((rd_T43 y199 0).f0) && (((rd_T43 t203 0).f1) == ((rd_T43 y199 0).f1))) = true then (if 1 < (t203.length : Int) then (if 1 < (y199.length : Int) then (if (((rd_T43 t203 1).f0) == ((rd_T43 y199 1).f0) && (((rd_T43 t203 1).f1) == ((rd_T43 y199 1).f1))) = true then (if 2 < (t203.length : Int) then (if 2 < (y199.length : Int) then (if (((rd_T43 t203 2).f0) == ((rd_T43 y199 2).f0) && (((rd_T43 t203 2).f1) == ((rd_T43 y199 2).f1))) = true then (if t208 = 2 then (if t212 = 8 then (if t217 = 3 then (if t222 = 2 then (if t227 = 3 then (if t232 = 4 then (if bt236.2 = 3 then (if 2 ≤ (y199.length : Int) then ((pack_Encode.f k (y199.drop 2)).bind fun t251 => (if t251.toList = ([] : List UInt8) then ((pack_Encode.f k ([] : List (S43))).bind fun t252 => ((crc_Seal.f (⟨#[67, 76, 69, 87, 0]⟩ : ByteArray)).bind fun t253 => (some (t252.toList == t253.toList)))) else (none))) else (none)) else (none)) else (none)) else (none)) else (none)) else (none)) else (none)) else (none)) else (none)) else (none)) else (none)) else (none)) else (none)) else (none)) else (none)) else (none)) else (none)) else (none)) else (none))) else (none)))) = some r := H
  have A12 := Aside0.mk A120
  clear A120
  replace H := Option.bind_eq_some_iff.mp H
  obtain ⟨t235, A130, H⟩ := H
  replace H : ((pack_Decode.f k t235).bind fun bt236 => (if (t203.length : Int) = 3 then ((crc_Seal.f (⟨#[67, 76, 69, 87, 3, 18, 1, 3]⟩ : ByteArray)).bind fun t240 => (if t202.toList = t240.toList then (if t204 = 0 then (if 0 < (t203.length : Int) then (if 0 < (y199.length : Int) then (if (((rd_T43 t203 0).f0) == ((rd_T43 y199 0).f0) && (((rd_T43 t203 0).f1) == ((rd_T43 y199 0).f1))) = true then (if 1 < (t203.length : Int) then (if 1 < (y199.length : Int) then (if (((rd_T43 t203 1).f0) == ((rd_T43 y199 1).f0) && (((rd_T43 t203 1).f1) == ((rd_T43 y199 1).f1))) = true then (if 2 < (t203.length : Int) then (if 2 < (y199.length : Int) then (if (((rd_T43 t203 2).f0) == ((rd_T43 y199 2).f0) && (((rd_T43 t203 2).f1) == ((rd_T43 y199 2).f1))) = true then (if t208 = 2 then (if t212 = 8 then (if t217 = 3 then (if t222 = 2 then (if t227 = 3 then (if t232 = 4 then (if bt236.2 = 3 then (if 2 ≤ (y199.length : Int) then ((pack_Encode.f k (y199.drop 2)).bind fun t251 => (if t251.toList = ([] : List UInt8) then ((pack_Encode.f k ([] : List (S43))).bind fun t252 => ((crc_Seal.f (⟨#[67, 76, 69, 87, 0]⟩ : ByteArray)).bind fun t253 => (some (t252.toList == t253.toList)))) else (none))) else (none)) else (none)) else (none)) else (none)) else (none)) else (none)) else (none)) else (none)) else (none)) else (none)) else (none)) else (none)) else (none)) else (none)) else (none)) else (none)) else (none)) else (none)) else (none))) else (none))) = some r := H
  have A13 := Aside0.mk A130
  clear A130
  replace H := Option.bind_eq_some_iff.mp H
  obtain ⟨⟨t236, t237⟩, A140, H⟩ := H
  replace H : (if (t203.length : Int) = 3 then ((crc_Seal.f (⟨#[67, 76, 69, 87, 3, 18, 1, 3]⟩ : ByteArray)).bind fun t240 => (if t202.toList = t240.toList then (if t204 = 0 then (if 0 < (t203.length : Int) then (if 0 < (y199.length : Int) then (if (((rd_T43 t203 0).f0) == ((rd_T43 y199 0).f0) && (((rd_T43 t203 0).f1) == ((rd_T43 y199 0).f1))) = true then (if 1 < (t203.length : Int) then (if 1 < (y199.length : Int) then (if (((rd_T43 t203 1).f0) == ((rd_T43 y199 1).f0) && (((rd_T43 t203 1).f1) == ((rd_T43 y199 1).f1))) = true then (if 2 < (t203.length : Int) then (if 2 < (y199.length : Int) then (if (((rd_T43 t203 2).f0) == ((rd_T43 y199 2).f0) && (((rd_T43 t203 2).f1) == ((rd_T43 y199 2).f1))) = true then (if t208 = 2 then (if t212 = 8 then (if t217 = 3 then (if t222 = 2 then (if t227 = 3 then (if t232 = 4 then (if t237 = 3 then (if 2 ≤ (y199.length : Int) then ((pack_Encode.f k (y199.drop 2)).bind fun t251 => (if t251.toList = ([] : List UInt8) then ((pack_Encode.f k ([] : List (S43))).bind fun t252 => ((crc_Seal.f (⟨#[67, 76, 69, 87, 0]⟩ : ByteArray)).bind fun t253 => (some (t252.toList == t253.toList)))) else (none))) else (none)) else (none)) else (none)) else (none)) else (none)) else (none)) else (none)) else (none)) else (none)) else (none)) else (none)) else (none)) else (none)) else (none)) else (none)) else (none)) else (none)) else (none)) else (none))) else (none)) = some r := H
  have A14 := Aside0.mk A140
  clear A140
  obtain ⟨c15, H⟩ := ite_yes_ H
  have c15b0 : ((t203.length : Int) == 3) = true := beq_iff_eq.mpr c15
  have c15b1 : ((t203.length : Int) != 3) = false := bne_eq_false_iff_eq.mpr c15
  clear c15
  replace H := Option.bind_eq_some_iff.mp H
  obtain ⟨t240, A160, H⟩ := H
  replace H : (if t202.toList = t240.toList then (if t204 = 0 then (if 0 < (t203.length : Int) then (if 0 < (y199.length : Int) then (if (((rd_T43 t203 0).f0) == ((rd_T43 y199 0).f0) && (((rd_T43 t203 0).f1) == ((rd_T43 y199 0).f1))) = true then (if 1 < (t203.length : Int) then (if 1 < (y199.length : Int) then (if (((rd_T43 t203 1).f0) == ((rd_T43 y199 1).f0) && (((rd_T43 t203 1).f1) == ((rd_T43 y199 1).f1))) = true then (if 2 < (t203.length : Int) then (if 2 < (y199.length : Int) then (if (((rd_T43 t203 2).f0) == ((rd_T43 y199 2).f0) && (((rd_T43 t203 2).f1) == ((rd_T43 y199 2).f1))) = true then (if t208 = 2 then (if t212 = 8 then (if t217 = 3 then (if t222 = 2 then (if t227 = 3 then (if t232 = 4 then (if t237 = 3 then (if 2 ≤ (y199.length : Int) then ((pack_Encode.f k (y199.drop 2)).bind fun t251 => (if t251.toList = ([] : List UInt8) then ((pack_Encode.f k ([] : List (S43))).bind fun t252 => ((crc_Seal.f (⟨#[67, 76, 69, 87, 0]⟩ : ByteArray)).bind fun t253 => (some (t252.toList == t253.toList)))) else (none))) else (none)) else (none)) else (none)) else (none)) else (none)) else (none)) else (none)) else (none)) else (none)) else (none)) else (none)) else (none)) else (none)) else (none)) else (none)) else (none)) else (none)) else (none)) else (none)) = some r := H
  have A16 := Aside0.mk A160
  clear A160
  obtain ⟨c17, H⟩ := ite_yes_ H
  have c17b0 : (t202.toList == t240.toList) = true := beq_iff_eq.mpr c17
  have c17b1 : (t202.toList != t240.toList) = false := bne_eq_false_iff_eq.mpr c17
  clear c17
  obtain ⟨c18, H⟩ := ite_yes_ H
  have c18b0 : (t204 == 0) = true := beq_iff_eq.mpr c18
  have c18b1 : (t204 != 0) = false := bne_eq_false_iff_eq.mpr c18
  clear c18
  obtain ⟨c19, H⟩ := ite_yes_ H
  have c19b0 : decide (0 < (t203.length : Int)) = true := decide_eq_true c19
  have c19b1 : decide (0 < t203.length) = true := decide_eq_true (by omega)
  clear c19
  obtain ⟨c20, H⟩ := ite_yes_ H
  have c20b0 : decide (0 < (y199.length : Int)) = true := decide_eq_true c20
  have c20b1 : decide (0 < y199.length) = true := decide_eq_true (by omega)
  clear c20
  obtain ⟨c21, H⟩ := ite_yes_ H
  have c21b0 : (((rd_T43 t203 0).f0) == ((rd_T43 y199 0).f0) && (((rd_T43 t203 0).f1) == ((rd_T43 y199 0).f1))) = true := c21
  (try (have c21b1 : decide (((rd_T43 t203 0).f0) = ((rd_T43 y199 0).f0) && (((rd_T43 t203 0).f1) == ((rd_T43 y199 0).f1))) = true := by simpa using c21))
  (try (have c21b2 : (((rd_T43 t203 0).f0) == ((rd_T43 y199 0).f0) && (((rd_T43 t203 0).f1) == ((rd_T43 y199 0).f1))) = true := by simpa using c21))
  clear c21
  obtain ⟨c22, H⟩ := ite_yes_ H
  have c22b0 : decide (1 < (t203.length : Int)) = true := decide_eq_true c22
  have c22b1 : decide (1 < t203.length) = true := decide_eq_true (by omega)
  clear c22
  obtain ⟨c23, H⟩ := ite_yes_ H
  have c23b0 : decide (1 < (y199.length : Int)) = true := decide_eq_true c23
  have c23b1 : decide (1 < y199.length) = true := decide_eq_true (by omega)
  clear c23
  obtain ⟨c24, H⟩ := ite_yes_ H
  have c24b0 : (((rd_T43 t203 1).f0) == ((rd_T43 y199 1).f0) && (((rd_T43 t203 1).f1) == ((rd_T43 y199 1).f1))) = true := c24
  (try (have c24b1 : decide (((rd_T43 t203 1).f0) = ((rd_T43 y199 1).f0) && (((rd_T43 t203 1).f1) == ((rd_T43 y199 1).f1))) = true := by simpa using c24))
  (try (have c24b2 : (((rd_T43 t203 1).f0) == ((rd_T43 y199 1).f0) && (((rd_T43 t203 1).f1) == ((rd_T43 y199 1).f1))) = true := by simpa using c24))
  clear c24
  obtain ⟨c25, H⟩ := ite_yes_ H
  have c25b0 : decide (2 < (t203.length : Int)) = true := decide_eq_true c25
  have c25b1 : decide (2 < t203.length) = true := decide_eq_true (by omega)
  clear c25
  obtain ⟨c26, H⟩ := ite_yes_ H
  have c26b0 : decide (2 < (y199.length : Int)) = true := decide_eq_true c26
  have c26b1 : decide (2 < y199.length) = true := decide_eq_true (by omega)
  clear c26
  obtain ⟨c27, H⟩ := ite_yes_ H
  have c27b0 : (((rd_T43 t203 2).f0) == ((rd_T43 y199 2).f0) && (((rd_T43 t203 2).f1) == ((rd_T43 y199 2).f1))) = true := c27
  (try (have c27b1 : decide (((rd_T43 t203 2).f0) = ((rd_T43 y199 2).f0) && (((rd_T43 t203 2).f1) == ((rd_T43 y199 2).f1))) = true := by simpa using c27))
  (try (have c27b2 : (((rd_T43 t203 2).f0) == ((rd_T43 y199 2).f0) && (((rd_T43 t203 2).f1) == ((rd_T43 y199 2).f1))) = true := by simpa using c27))
  clear c27
  obtain ⟨c28, H⟩ := ite_yes_ H
  have c28b0 : (t208 == 2) = true := beq_iff_eq.mpr c28
  have c28b1 : (t208 != 2) = false := bne_eq_false_iff_eq.mpr c28
  clear c28
  obtain ⟨c29, H⟩ := ite_yes_ H
  have c29b0 : (t212 == 8) = true := beq_iff_eq.mpr c29
  have c29b1 : (t212 != 8) = false := bne_eq_false_iff_eq.mpr c29
  clear c29
  obtain ⟨c30, H⟩ := ite_yes_ H
  have c30b0 : (t217 == 3) = true := beq_iff_eq.mpr c30
  have c30b1 : (t217 != 3) = false := bne_eq_false_iff_eq.mpr c30
  clear c30
  obtain ⟨c31, H⟩ := ite_yes_ H
  have c31b0 : (t222 == 2) = true := beq_iff_eq.mpr c31
  have c31b1 : (t222 != 2) = false := bne_eq_false_iff_eq.mpr c31
  clear c31
  obtain ⟨c32, H⟩ := ite_yes_ H
  have c32b0 : (t227 == 3) = true := beq_iff_eq.mpr c32
  have c32b1 : (t227 != 3) = false := bne_eq_false_iff_eq.mpr c32
  clear c32
  obtain ⟨c33, H⟩ := ite_yes_ H
  have c33b0 : (t232 == 4) = true := beq_iff_eq.mpr c33
  have c33b1 : (t232 != 4) = false := bne_eq_false_iff_eq.mpr c33
  clear c33
  obtain ⟨c34, H⟩ := ite_yes_ H
  have c34b0 : (t237 == 3) = true := beq_iff_eq.mpr c34
  have c34b1 : (t237 != 3) = false := bne_eq_false_iff_eq.mpr c34
  clear c34
  obtain ⟨c35, H⟩ := ite_yes_ H
  have c35b0 := eq_true c35
  have c35b1 : decide (2 ≤ (y199.length : Int)) = true := decide_eq_true c35
  clear c35
  obtain ⟨y247, hy247⟩ : ∃ y_ : List (S43), y_ = (y199.drop 2) := ⟨_, rfl⟩
  replace H : ((pack_Encode.f k y247).bind fun t251 => (if t251.toList = ([] : List UInt8) then ((pack_Encode.f k ([] : List (S43))).bind fun t252 => ((crc_Seal.f (⟨#[67, 76, 69, 87, 0]⟩ : ByteArray)).bind fun t253 => (some (t252.toList == t253.toList)))) else (none))) = some r := by first | (rw [hy247]; with_reducible exact H) | (have H2_ := (Option.bind_some _ _).symm.trans H; rw [hy247]; with_reducible exact H2_) | (have H2_ := (Option.bind_some _ _).symm.trans H; with_reducible exact H2_) | with_reducible exact H | (rw [hy247]; exact H) | exact H
  have Ny247 := Aside0.mk hy247
  clear hy247
  replace H := Option.bind_eq_some_iff.mp H
  obtain ⟨t251, A360, H⟩ := H
  replace H : (if t251.toList = ([] : List UInt8) then ((pack_Encode.f k ([] : List (S43))).bind fun t252 => ((crc_Seal.f (⟨#[67, 76, 69, 87, 0]⟩ : ByteArray)).bind fun t253 => (some (t252.toList == t253.toList)))) else (none)) = some r := H
  have A36 := Aside0.mk A360
  clear A360
  obtain ⟨c37, H⟩ := ite_yes_ H
  have c37b0 : (t251.toList == ([] : List UInt8)) = true := beq_iff_eq.mpr c37
  have c37b1 : (t251.toList != ([] : List UInt8)) = false := bne_eq_false_iff_eq.mpr c37
  have c37b2 : t251.toList.isEmpty = true := by rw [c37]; rfl
  have c37b3 : (!t251.toList.isEmpty) = false := by rw [c37]; rfl
  clear c37
  replace H := Option.bind_eq_some_iff.mp H
  obtain ⟨t252, A380, H⟩ := H
  replace H : ((crc_Seal.f (⟨#[67, 76, 69, 87, 0]⟩ : ByteArray)).bind fun t253 => (some (t252.toList == t253.toList))) = some r := H
  have A38 := Aside0.mk A380
  clear A380
  replace H := Option.bind_eq_some_iff.mp H
  obtain ⟨t253, A390, H⟩ := H
  replace H : (some (t252.toList == t253.toList)) = some r := H
  have A39 := Aside0.mk A390
  clear A390
  obtain rfl := Option.some.inj H
  go_enter Tryd.func14, Tryd.ntmps14
  try go_wp2_with (first | ((with_reducible refine gate_dst (N := 22) rfl ?_); refine Kd.R_lit k43 _ 43 ?hg (N := 22) ?hd (xs := ([(⟨0, 3⟩ : S43), (⟨1, 0⟩ : S43), (⟨3, 0⟩ : S43)] : List (S43))) (inner := [.int .i64 0, .int .i64 3, .int .i64 1, .int .i64 0, .int .i64 3, .int .i64 0]) (ok := fun _ => True) (okp := fun _ => True) ?hr ?hp (fun _ hk => hk) trivial (Below.refl _ _) (Nat.le_refl _) (by simp) ?_; (case hd => rfl); (case hg => rfl); (case hr => first | (go_simp; done) | (go_simp; rfl)); (case hp => exact (Reps.c2 (show Kd.M k43 _ _ _ (⟨0, 3⟩ : S43) [.int .i64 0, .int .i64 3] from (k43_mkM _ _ _ (⟨0, 3⟩ : S43) )) (Reps.c2 (show Kd.M k43 _ _ _ (⟨1, 0⟩ : S43) [.int .i64 1, .int .i64 0] from (k43_mkM _ _ _ (⟨1, 0⟩ : S43) )) (Reps.c2 (show Kd.M k43 _ _ _ (⟨3, 0⟩ : S43) [.int .i64 3, .int .i64 0] from (k43_mkM _ _ _ (⟨3, 0⟩ : S43) )) (Reps.none _ _))))); intro v200 w40 ho41 hb hg_ hnew_; clear hg_ hnew_; (first | rw [← Ny199.out] at ho41 | (simp only [Int.reduceToNat] at ho41; rw [← Ny199.out] at ho41)); have n0_ := Aside0.mk (Kd.R_lower ho41 (below_size (by repeat (first | (with_reducible first | exact HB.out | apply below_alloc | apply pw_below_drewN | apply below_drew1) | exact HB.out)))); have n1_ := Aside0.mk (below_step (by repeat (first | (with_reducible first | exact HB.out | apply below_alloc | apply pw_below_drewN | apply below_drew1) | exact HB.out)) hb); clear HB; have HO201 := n0_; have HB := n1_; clear n0_ n1_; clear hb ho41; obtain ⟨Ao42, co42, eo42⟩ := Kd.R_slice HO201.out; subst eo42) | ((with_reducible refine gate_callee (f := 10) rfl ?_); refine goesL_ (some 24) rfl rfl Tryd.func10 (by kernel_rfl) rfl #[.slice Ao42 y199.length co42] rfl (by (try simp only [List.map_toArray, List.map_cons, List.map_nil]); first | done | rfl | (simp only [List.length_drop, List.length_take]; rfl)) ?_; (with_reducible refine (pack_Encode.calls k _ _ y199 t202 _ ?side1 ?side2 ?side3 A1.out).mono ?_); (case side1 => repeat (first | exact (Kd.R_reads' HO201.out).2.2 | (with_reducible refine Kd.C_alloc ?_ _) | (with_reducible refine Kd.C_drewN ?_ _) | (with_reducible refine Kd.C_drew ?_))); (case side2 => exact (Kd.R_reads' HO201.out).2.1); (case side3 => exact TabW.below HTb.out (by repeat (first | (with_reducible first | exact HB.out | apply below_alloc | apply pw_below_drewN | apply below_drew1) | exact HB.out))); rintro e w43 ⟨rfl, hb⟩; refine ⟨_, rfl, ?_⟩; have n0_ := Aside0.mk (Kd.R_below (by (with_reducible repeat (first | apply Kd.R_alloc | apply Kd.R_drewN | apply Kd.R_drew)); exact HO201.out) hb); have n1_ := Aside0.mk (below_step (by repeat (first | (with_reducible first | exact HB.out | apply below_alloc | apply pw_below_drewN | apply below_drew1) | exact HB.out)) hb); clear HO201; clear HB; have HO201 := n0_; have HB := n1_; clear n0_ n1_; (try clear hb); (try clear hb2); (try clear hk); (try clear hi)) | ((with_reducible refine gate_callee (f := 7) rfl ?_); refine goesL_ (some 27) rfl rfl Tryd.func7 (by kernel_rfl) rfl #[.string t202] rfl (by (try simp only [List.map_toArray, List.map_cons, List.map_nil]); first | done | rfl | (simp only [List.length_drop, List.length_take]; rfl)) ?_; (with_reducible refine (pack_Decode.calls k t202 t203 t204 _ ?side1 A2.out).mono ?_); (case side1 => exact TabW.below HTb.out (by repeat (first | (with_reducible first | exact HB.out | apply below_alloc | apply pw_below_drewN | apply below_drew1) | exact HB.out))); rintro e w44 ⟨v205, rfl, ho0, hb⟩; refine ⟨_, rfl, ?_⟩; have n0_ := Aside0.mk (Kd.R_elder' (by (with_reducible repeat (first | apply Kd.R_alloc | apply Kd.R_drewN | apply Kd.R_drew)); exact HO201.out) (Kd.R_base ho0) hb); have n1_ := Aside0.mk (Kd.R_lower (Kd.R_new' ho0 (Kd.R_lt (by (with_reducible repeat (first | apply Kd.R_alloc | apply Kd.R_drewN | apply Kd.R_drew)); exact HO201.out))) (below_size (by repeat (first | (with_reducible first | exact HB.out | apply below_alloc | apply pw_below_drewN | apply below_drew1) | exact HB.out)))); have n2_ := Aside0.mk (below_step (by repeat (first | (with_reducible first | exact HB.out | apply below_alloc | apply pw_below_drewN | apply below_drew1) | exact HB.out)) hb); clear HO201; clear HB; have HO201 := n0_; have HO206 := n1_; have HB := n2_; clear n0_ n1_ n2_; (try clear hb); (try clear hb2); (try clear hk); (try clear hi); (try clear ho0)) | ((with_reducible refine gate_callee (f := 7) rfl ?_); refine goesL_ (some 31) rfl rfl Tryd.func7 (by kernel_rfl) rfl #[.string (⟨#[97, 98]⟩ : ByteArray)] rfl (by (try simp only [List.map_toArray, List.map_cons, List.map_nil]); first | done | rfl | (simp only [List.length_drop, List.length_take]; rfl)) ?_; (with_reducible refine (pack_Decode.calls k (⟨#[97, 98]⟩ : ByteArray) t207 t208 _ ?side1 A3.out).mono ?_); (case side1 => exact TabW.below HTb.out (by repeat (first | (with_reducible first | exact HB.out | apply below_alloc | apply pw_below_drewN | apply below_drew1) | exact HB.out))); rintro e w45 ⟨v209, rfl, ho0, hb⟩; refine ⟨_, rfl, ?_⟩; have n0_ := Aside0.mk (Kd.R_elder' (by (with_reducible repeat (first | apply Kd.R_alloc | apply Kd.R_drewN | apply Kd.R_drew)); exact HO201.out) (Kd.R_base ho0) hb); have n1_ := Aside0.mk (Kd.R_elder' (by (with_reducible repeat (first | apply Kd.R_alloc | apply Kd.R_drewN | apply Kd.R_drew)); exact HO206.out) (Kd.R_base ho0) hb); have n2_ := Aside0.mk (Kd.R_lower (Kd.R_new' (Kd.R_new' ho0 (Kd.R_lt (by (with_reducible repeat (first | apply Kd.R_alloc | apply Kd.R_drewN | apply Kd.R_drew)); exact HO201.out))) (Kd.R_lt (by (with_reducible repeat (first | apply Kd.R_alloc | apply Kd.R_drewN | apply Kd.R_drew)); exact HO206.out))) (below_size (by repeat (first | (with_reducible first | exact HB.out | apply below_alloc | apply pw_below_drewN | apply below_drew1) | exact HB.out)))); have n3_ := Aside0.mk (below_step (by repeat (first | (with_reducible first | exact HB.out | apply below_alloc | apply pw_below_drewN | apply below_drew1) | exact HB.out)) hb); clear HO201; clear HO206; clear HB; have HO201 := n0_; have HO206 := n1_; have HO210 := n2_; have HB := n3_; clear n0_ n1_ n2_ n3_; (try clear hb); (try clear hb2); (try clear hk); (try clear hi); (try clear ho0)) | ((with_reducible refine gate_callee (f := 7) rfl ?_); refine goesL_ (some 35) rfl rfl Tryd.func7 (by kernel_rfl) rfl #[.string (⟨#[97, 98, 99, 100]⟩ : ByteArray)] rfl (by (try simp only [List.map_toArray, List.map_cons, List.map_nil]); first | done | rfl | (simp only [List.length_drop, List.length_take]; rfl)) ?_; (with_reducible refine (pack_Decode.calls k (⟨#[97, 98, 99, 100]⟩ : ByteArray) t211 t212 _ ?side1 A4.out).mono ?_); (case side1 => exact TabW.below HTb.out (by repeat (first | (with_reducible first | exact HB.out | apply below_alloc | apply pw_below_drewN | apply below_drew1) | exact HB.out))); rintro e w46 ⟨v213, rfl, ho0, hb⟩; refine ⟨_, rfl, ?_⟩; have n0_ := Aside0.mk (Kd.R_elder' (by (with_reducible repeat (first | apply Kd.R_alloc | apply Kd.R_drewN | apply Kd.R_drew)); exact HO201.out) (Kd.R_base ho0) hb); have n1_ := Aside0.mk (Kd.R_elder' (by (with_reducible repeat (first | apply Kd.R_alloc | apply Kd.R_drewN | apply Kd.R_drew)); exact HO206.out) (Kd.R_base ho0) hb); have n2_ := Aside0.mk (Kd.R_elder' (by (with_reducible repeat (first | apply Kd.R_alloc | apply Kd.R_drewN | apply Kd.R_drew)); exact HO210.out) (Kd.R_base ho0) hb); have n3_ := Aside0.mk (Kd.R_lower (Kd.R_new' (Kd.R_new' (Kd.R_new' ho0 (Kd.R_lt (by (with_reducible repeat (first | apply Kd.R_alloc | apply Kd.R_drewN | apply Kd.R_drew)); exact HO201.out))) (Kd.R_lt (by (with_reducible repeat (first | apply Kd.R_alloc | apply Kd.R_drewN | apply Kd.R_drew)); exact HO206.out))) (Kd.R_lt (by (with_reducible repeat (first | apply Kd.R_alloc | apply Kd.R_drewN | apply Kd.R_drew)); exact HO210.out))) (below_size (by repeat (first | (with_reducible first | exact HB.out | apply below_alloc | apply pw_below_drewN | apply below_drew1) | exact HB.out)))); have n4_ := Aside0.mk (below_step (by repeat (first | (with_reducible first | exact HB.out | apply below_alloc | apply pw_below_drewN | apply below_drew1) | exact HB.out)) hb); clear HO201; clear HO206; clear HO210; clear HB; have HO201 := n0_; have HO206 := n1_; have HO210 := n2_; have HO214 := n3_; have HB := n4_; clear n0_ n1_ n2_ n3_ n4_; (try clear hb); (try clear hb2); (try clear hk); (try clear hi); (try clear ho0)) | ((with_reducible refine gate_callee (f := 9) rfl ?_); refine goesL_ (some 39) rfl rfl Tryd.func9 (by kernel_rfl) rfl #[.string (⟨#[67, 76, 79, 87, 0]⟩ : ByteArray)] rfl (by (try simp only [List.map_toArray, List.map_cons, List.map_nil]); first | done | rfl | (simp only [List.length_drop, List.length_take]; rfl)) ?_; (with_reducible refine (crc_Seal.calls (⟨#[67, 76, 79, 87, 0]⟩ : ByteArray) t215 _ ?side1 A5.out).mono ?_); (case side1 => exact TabW.below HTb.out (by repeat (first | (with_reducible first | exact HB.out | apply below_alloc | apply pw_below_drewN | apply below_drew1) | exact HB.out))); rintro e w47 ⟨rfl, hb⟩; refine ⟨_, rfl, ?_⟩; have n0_ := Aside0.mk (Kd.R_below (by (with_reducible repeat (first | apply Kd.R_alloc | apply Kd.R_drewN | apply Kd.R_drew)); exact HO201.out) hb); have n1_ := Aside0.mk (Kd.R_below (by (with_reducible repeat (first | apply Kd.R_alloc | apply Kd.R_drewN | apply Kd.R_drew)); exact HO206.out) hb); have n2_ := Aside0.mk (Kd.R_below (by (with_reducible repeat (first | apply Kd.R_alloc | apply Kd.R_drewN | apply Kd.R_drew)); exact HO210.out) hb); have n3_ := Aside0.mk (Kd.R_below (by (with_reducible repeat (first | apply Kd.R_alloc | apply Kd.R_drewN | apply Kd.R_drew)); exact HO214.out) hb); have n4_ := Aside0.mk (below_step (by repeat (first | (with_reducible first | exact HB.out | apply below_alloc | apply pw_below_drewN | apply below_drew1) | exact HB.out)) hb); clear HO201; clear HO206; clear HO210; clear HO214; clear HB; have HO201 := n0_; have HO206 := n1_; have HO210 := n2_; have HO214 := n3_; have HB := n4_; clear n0_ n1_ n2_ n3_ n4_; (try clear hb); (try clear hb2); (try clear hk); (try clear hi)) | ((with_reducible refine gate_callee (f := 7) rfl ?_); refine goesL_ (some 40) rfl rfl Tryd.func7 (by kernel_rfl) rfl #[.string t215] rfl (by (try simp only [List.map_toArray, List.map_cons, List.map_nil]); first | done | rfl | (simp only [List.length_drop, List.length_take]; rfl)) ?_; (with_reducible refine (pack_Decode.calls k t215 t216 t217 _ ?side1 A6.out).mono ?_); (case side1 => exact TabW.below HTb.out (by repeat (first | (with_reducible first | exact HB.out | apply below_alloc | apply pw_below_drewN | apply below_drew1) | exact HB.out))); rintro e w48 ⟨v218, rfl, ho0, hb⟩; refine ⟨_, rfl, ?_⟩; have n0_ := Aside0.mk (Kd.R_elder' (by (with_reducible repeat (first | apply Kd.R_alloc | apply Kd.R_drewN | apply Kd.R_drew)); exact HO201.out) (Kd.R_base ho0) hb); have n1_ := Aside0.mk (Kd.R_elder' (by (with_reducible repeat (first | apply Kd.R_alloc | apply Kd.R_drewN | apply Kd.R_drew)); exact HO206.out) (Kd.R_base ho0) hb); have n2_ := Aside0.mk (Kd.R_elder' (by (with_reducible repeat (first | apply Kd.R_alloc | apply Kd.R_drewN | apply Kd.R_drew)); exact HO210.out) (Kd.R_base ho0) hb); have n3_ := Aside0.mk (Kd.R_elder' (by (with_reducible repeat (first | apply Kd.R_alloc | apply Kd.R_drewN | apply Kd.R_drew)); exact HO214.out) (Kd.R_base ho0) hb); have n4_ := Aside0.mk (Kd.R_lower (Kd.R_new' (Kd.R_new' (Kd.R_new' (Kd.R_new' ho0 (Kd.R_lt (by (with_reducible repeat (first | apply Kd.R_alloc | apply Kd.R_drewN | apply Kd.R_drew)); exact HO201.out))) (Kd.R_lt (by (with_reducible repeat (first | apply Kd.R_alloc | apply Kd.R_drewN | apply Kd.R_drew)); exact HO206.out))) (Kd.R_lt (by (with_reducible repeat (first | apply Kd.R_alloc | apply Kd.R_drewN | apply Kd.R_drew)); exact HO210.out))) (Kd.R_lt (by (with_reducible repeat (first | apply Kd.R_alloc | apply Kd.R_drewN | apply Kd.R_drew)); exact HO214.out))) (below_size (by repeat (first | (with_reducible first | exact HB.out | apply below_alloc | apply pw_below_drewN | apply below_drew1) | exact HB.out)))); have n5_ := Aside0.mk (below_step (by repeat (first | (with_reducible first | exact HB.out | apply below_alloc | apply pw_below_drewN | apply below_drew1) | exact HB.out)) hb); clear HO201; clear HO206; clear HO210; clear HO214; clear HB; have HO201 := n0_; have HO206 := n1_; have HO210 := n2_; have HO214 := n3_; have HO219 := n4_; have HB := n5_; clear n0_ n1_ n2_ n3_ n4_ n5_; (try clear hb); (try clear hb2); (try clear hk); (try clear hi); (try clear ho0)) | ((with_reducible refine gate_callee (f := 9) rfl ?_); refine goesL_ (some 44) rfl rfl Tryd.func9 (by kernel_rfl) rfl #[.string (⟨#[67, 76, 69, 87, 1]⟩ : ByteArray)] rfl (by (try simp only [List.map_toArray, List.map_cons, List.map_nil]); first | done | rfl | (simp only [List.length_drop, List.length_take]; rfl)) ?_; (with_reducible refine (crc_Seal.calls (⟨#[67, 76, 69, 87, 1]⟩ : ByteArray) t220 _ ?side1 A7.out).mono ?_); (case side1 => exact TabW.below HTb.out (by repeat (first | (with_reducible first | exact HB.out | apply below_alloc | apply pw_below_drewN | apply below_drew1) | exact HB.out))); rintro e w49 ⟨rfl, hb⟩; refine ⟨_, rfl, ?_⟩; have n0_ := Aside0.mk (Kd.R_below (by (with_reducible repeat (first | apply Kd.R_alloc | apply Kd.R_drewN | apply Kd.R_drew)); exact HO201.out) hb); have n1_ := Aside0.mk (Kd.R_below (by (with_reducible repeat (first | apply Kd.R_alloc | apply Kd.R_drewN | apply Kd.R_drew)); exact HO206.out) hb); have n2_ := Aside0.mk (Kd.R_below (by (with_reducible repeat (first | apply Kd.R_alloc | apply Kd.R_drewN | apply Kd.R_drew)); exact HO210.out) hb); have n3_ := Aside0.mk (Kd.R_below (by (with_reducible repeat (first | apply Kd.R_alloc | apply Kd.R_drewN | apply Kd.R_drew)); exact HO214.out) hb); have n4_ := Aside0.mk (Kd.R_below (by (with_reducible repeat (first | apply Kd.R_alloc | apply Kd.R_drewN | apply Kd.R_drew)); exact HO219.out) hb); have n5_ := Aside0.mk (below_step (by repeat (first | (with_reducible first | exact HB.out | apply below_alloc | apply pw_below_drewN | apply below_drew1) | exact HB.out)) hb); clear HO201; clear HO206; clear HO210; clear HO214; clear HO219; clear HB; have HO201 := n0_; have HO206 := n1_; have HO210 := n2_; have HO214 := n3_; have HO219 := n4_; have HB := n5_; clear n0_ n1_ n2_ n3_ n4_ n5_; (try clear hb); (try clear hb2); (try clear hk); (try clear hi)) | ((with_reducible refine gate_callee (f := 7) rfl ?_); refine goesL_ (some 45) rfl rfl Tryd.func7 (by kernel_rfl) rfl #[.string t220] rfl (by (try simp only [List.map_toArray, List.map_cons, List.map_nil]); first | done | rfl | (simp only [List.length_drop, List.length_take]; rfl)) ?_; (with_reducible refine (pack_Decode.calls k t220 t221 t222 _ ?side1 A8.out).mono ?_); (case side1 => exact TabW.below HTb.out (by repeat (first | (with_reducible first | exact HB.out | apply below_alloc | apply pw_below_drewN | apply below_drew1) | exact HB.out))); rintro e w50 ⟨v223, rfl, ho0, hb⟩; refine ⟨_, rfl, ?_⟩; have n0_ := Aside0.mk (Kd.R_elder' (by (with_reducible repeat (first | apply Kd.R_alloc | apply Kd.R_drewN | apply Kd.R_drew)); exact HO201.out) (Kd.R_base ho0) hb); have n1_ := Aside0.mk (Kd.R_elder' (by (with_reducible repeat (first | apply Kd.R_alloc | apply Kd.R_drewN | apply Kd.R_drew)); exact HO206.out) (Kd.R_base ho0) hb); have n2_ := Aside0.mk (Kd.R_elder' (by (with_reducible repeat (first | apply Kd.R_alloc | apply Kd.R_drewN | apply Kd.R_drew)); exact HO210.out) (Kd.R_base ho0) hb); have n3_ := Aside0.mk (Kd.R_elder' (by (with_reducible repeat (first | apply Kd.R_alloc | apply Kd.R_drewN | apply Kd.R_drew)); exact HO214.out) (Kd.R_base ho0) hb); have n4_ := Aside0.mk (Kd.R_elder' (by (with_reducible repeat (first | apply Kd.R_alloc | apply Kd.R_drewN | apply Kd.R_drew)); exact HO219.out) (Kd.R_base ho0) hb); have n5_ := Aside0.mk (Kd.R_lower (Kd.R_new' (Kd.R_new' (Kd.R_new' (Kd.R_new' (Kd.R_new' ho0 (Kd.R_lt (by (with_reducible repeat (first | apply Kd.R_alloc | apply Kd.R_drewN | apply Kd.R_drew)); exact HO201.out))) (Kd.R_lt (by (with_reducible repeat (first | apply Kd.R_alloc | apply Kd.R_drewN | apply Kd.R_drew)); exact HO206.out))) (Kd.R_lt (by (with_reducible repeat (first | apply Kd.R_alloc | apply Kd.R_drewN | apply Kd.R_drew)); exact HO210.out))) (Kd.R_lt (by (with_reducible repeat (first | apply Kd.R_alloc | apply Kd.R_drewN | apply Kd.R_drew)); exact HO214.out))) (Kd.R_lt (by (with_reducible repeat (first | apply Kd.R_alloc | apply Kd.R_drewN | apply Kd.R_drew)); exact HO219.out))) (below_size (by repeat (first | (with_reducible first | exact HB.out | apply below_alloc | apply pw_below_drewN | apply below_drew1) | exact HB.out)))); have n6_ := Aside0.mk (below_step (by repeat (first | (with_reducible first | exact HB.out | apply below_alloc | apply pw_below_drewN | apply below_drew1) | exact HB.out)) hb); clear HO201; clear HO206; clear HO210; clear HO214; clear HO219; clear HB; have HO201 := n0_; have HO206 := n1_; have HO210 := n2_; have HO214 := n3_; have HO219 := n4_; have HO224 := n5_; have HB := n6_; clear n0_ n1_ n2_ n3_ n4_ n5_ n6_; (try clear hb); (try clear hb2); (try clear hk); (try clear hi); (try clear ho0)) | ((with_reducible refine gate_callee (f := 9) rfl ?_); refine goesL_ (some 49) rfl rfl Tryd.func9 (by kernel_rfl) rfl #[.string (⟨#[67, 76, 69, 87, 0, 120]⟩ : ByteArray)] rfl (by (try simp only [List.map_toArray, List.map_cons, List.map_nil]); first | done | rfl | (simp only [List.length_drop, List.length_take]; rfl)) ?_; (with_reducible refine (crc_Seal.calls (⟨#[67, 76, 69, 87, 0, 120]⟩ : ByteArray) t225 _ ?side1 A9.out).mono ?_); (case side1 => exact TabW.below HTb.out (by repeat (first | (with_reducible first | exact HB.out | apply below_alloc | apply pw_below_drewN | apply below_drew1) | exact HB.out))); rintro e w51 ⟨rfl, hb⟩; refine ⟨_, rfl, ?_⟩; have n0_ := Aside0.mk (Kd.R_below (by (with_reducible repeat (first | apply Kd.R_alloc | apply Kd.R_drewN | apply Kd.R_drew)); exact HO201.out) hb); have n1_ := Aside0.mk (Kd.R_below (by (with_reducible repeat (first | apply Kd.R_alloc | apply Kd.R_drewN | apply Kd.R_drew)); exact HO206.out) hb); have n2_ := Aside0.mk (Kd.R_below (by (with_reducible repeat (first | apply Kd.R_alloc | apply Kd.R_drewN | apply Kd.R_drew)); exact HO210.out) hb); have n3_ := Aside0.mk (Kd.R_below (by (with_reducible repeat (first | apply Kd.R_alloc | apply Kd.R_drewN | apply Kd.R_drew)); exact HO214.out) hb); have n4_ := Aside0.mk (Kd.R_below (by (with_reducible repeat (first | apply Kd.R_alloc | apply Kd.R_drewN | apply Kd.R_drew)); exact HO219.out) hb); have n5_ := Aside0.mk (Kd.R_below (by (with_reducible repeat (first | apply Kd.R_alloc | apply Kd.R_drewN | apply Kd.R_drew)); exact HO224.out) hb); have n6_ := Aside0.mk (below_step (by repeat (first | (with_reducible first | exact HB.out | apply below_alloc | apply pw_below_drewN | apply below_drew1) | exact HB.out)) hb); clear HO201; clear HO206; clear HO210; clear HO214; clear HO219; clear HO224; clear HB; have HO201 := n0_; have HO206 := n1_; have HO210 := n2_; have HO214 := n3_; have HO219 := n4_; have HO224 := n5_; have HB := n6_; clear n0_ n1_ n2_ n3_ n4_ n5_ n6_; (try clear hb); (try clear hb2); (try clear hk); (try clear hi)) | ((with_reducible refine gate_callee (f := 7) rfl ?_); refine goesL_ (some 50) rfl rfl Tryd.func7 (by kernel_rfl) rfl #[.string t225] rfl (by (try simp only [List.map_toArray, List.map_cons, List.map_nil]); first | done | rfl | (simp only [List.length_drop, List.length_take]; rfl)) ?_; (with_reducible refine (pack_Decode.calls k t225 t226 t227 _ ?side1 A10.out).mono ?_); (case side1 => exact TabW.below HTb.out (by repeat (first | (with_reducible first | exact HB.out | apply below_alloc | apply pw_below_drewN | apply below_drew1) | exact HB.out))); rintro e w52 ⟨v228, rfl, ho0, hb⟩; refine ⟨_, rfl, ?_⟩; have n0_ := Aside0.mk (Kd.R_elder' (by (with_reducible repeat (first | apply Kd.R_alloc | apply Kd.R_drewN | apply Kd.R_drew)); exact HO201.out) (Kd.R_base ho0) hb); have n1_ := Aside0.mk (Kd.R_elder' (by (with_reducible repeat (first | apply Kd.R_alloc | apply Kd.R_drewN | apply Kd.R_drew)); exact HO206.out) (Kd.R_base ho0) hb); have n2_ := Aside0.mk (Kd.R_elder' (by (with_reducible repeat (first | apply Kd.R_alloc | apply Kd.R_drewN | apply Kd.R_drew)); exact HO210.out) (Kd.R_base ho0) hb); have n3_ := Aside0.mk (Kd.R_elder' (by (with_reducible repeat (first | apply Kd.R_alloc | apply Kd.R_drewN | apply Kd.R_drew)); exact HO214.out) (Kd.R_base ho0) hb); have n4_ := Aside0.mk (Kd.R_elder' (by (with_reducible repeat (first | apply Kd.R_alloc | apply Kd.R_drewN | apply Kd.R_drew)); exact HO219.out) (Kd.R_base ho0) hb); have n5_ := Aside0.mk (Kd.R_elder' (by (with_reducible repeat (first | apply Kd.R_alloc | apply Kd.R_drewN | apply Kd.R_drew)); exact HO224.out) (Kd.R_base ho0) hb); have n6_ := Aside0.mk (Kd.R_lower (Kd.R_new' (Kd.R_new' (Kd.R_new' (Kd.R_new' (Kd.R_new' (Kd.R_new' ho0 (Kd.R_lt (by (with_reducible repeat (first | apply Kd.R_alloc | apply Kd.R_drewN | apply Kd.R_drew)); exact HO201.out))) (Kd.R_lt (by (with_reducible repeat (first | apply Kd.R_alloc | apply Kd.R_drewN | apply Kd.R_drew)); exact HO206.out))) (Kd.R_lt (by (with_reducible repeat (first | apply Kd.R_alloc | apply Kd.R_drewN | apply Kd.R_drew)); exact HO210.out))) (Kd.R_lt (by (with_reducible repeat (first | apply Kd.R_alloc | apply Kd.R_drewN | apply Kd.R_drew)); exact HO214.out))) (Kd.R_lt (by (with_reducible repeat (first | apply Kd.R_alloc | apply Kd.R_drewN | apply Kd.R_drew)); exact HO219.out))) (Kd.R_lt (by (with_reducible repeat (first | apply Kd.R_alloc | apply Kd.R_drewN | apply Kd.R_drew)); exact HO224.out))) (below_size (by repeat (first | (with_reducible first | exact HB.out | apply below_alloc | apply pw_below_drewN | apply below_drew1) | exact HB.out)))); have n7_ := Aside0.mk (below_step (by repeat (first | (with_reducible first | exact HB.out | apply below_alloc | apply pw_below_drewN | apply below_drew1) | exact HB.out)) hb); clear HO201; clear HO206; clear HO210; clear HO214; clear HO219; clear HO224; clear HB; have HO201 := n0_; have HO206 := n1_; have HO210 := n2_; have HO214 := n3_; have HO219 := n4_; have HO224 := n5_; have HO229 := n6_; have HB := n7_; clear n0_ n1_ n2_ n3_ n4_ n5_ n6_ n7_; (try clear hb); (try clear hb2); (try clear hk); (try clear hi); (try clear ho0)) | ((with_reducible refine gate_callee (f := 9) rfl ?_); refine goesL_ (some 54) rfl rfl Tryd.func9 (by kernel_rfl) rfl #[.string (⟨#[67, 76, 69, 87, 194, 16, 0, 1]⟩ : ByteArray)] rfl (by (try simp only [List.map_toArray, List.map_cons, List.map_nil]); first | done | rfl | (simp only [List.length_drop, List.length_take]; rfl)) ?_; (with_reducible refine (crc_Seal.calls (⟨#[67, 76, 69, 87, 194, 16, 0, 1]⟩ : ByteArray) t230 _ ?side1 A11.out).mono ?_); (case side1 => exact TabW.below HTb.out (by repeat (first | (with_reducible first | exact HB.out | apply below_alloc | apply pw_below_drewN | apply below_drew1) | exact HB.out))); rintro e w53 ⟨rfl, hb⟩; refine ⟨_, rfl, ?_⟩; have n0_ := Aside0.mk (Kd.R_below (by (with_reducible repeat (first | apply Kd.R_alloc | apply Kd.R_drewN | apply Kd.R_drew)); exact HO201.out) hb); have n1_ := Aside0.mk (Kd.R_below (by (with_reducible repeat (first | apply Kd.R_alloc | apply Kd.R_drewN | apply Kd.R_drew)); exact HO206.out) hb); have n2_ := Aside0.mk (Kd.R_below (by (with_reducible repeat (first | apply Kd.R_alloc | apply Kd.R_drewN | apply Kd.R_drew)); exact HO210.out) hb); have n3_ := Aside0.mk (Kd.R_below (by (with_reducible repeat (first | apply Kd.R_alloc | apply Kd.R_drewN | apply Kd.R_drew)); exact HO214.out) hb); have n4_ := Aside0.mk (Kd.R_below (by (with_reducible repeat (first | apply Kd.R_alloc | apply Kd.R_drewN | apply Kd.R_drew)); exact HO219.out) hb); have n5_ := Aside0.mk (Kd.R_below (by (with_reducible repeat (first | apply Kd.R_alloc | apply Kd.R_drewN | apply Kd.R_drew)); exact HO224.out) hb); have n6_ := Aside0.mk (Kd.R_below (by (with_reducible repeat (first | apply Kd.R_alloc | apply Kd.R_drewN | apply Kd.R_drew)); exact HO229.out) hb); have n7_ := Aside0.mk (below_step (by repeat (first | (with_reducible first | exact HB.out | apply below_alloc | apply pw_below_drewN | apply below_drew1) | exact HB.out)) hb); clear HO201; clear HO206; clear HO210; clear HO214; clear HO219; clear HO224; clear HO229; clear HB; have HO201 := n0_; have HO206 := n1_; have HO210 := n2_; have HO214 := n3_; have HO219 := n4_; have HO224 := n5_; have HO229 := n6_; have HB := n7_; clear n0_ n1_ n2_ n3_ n4_ n5_ n6_ n7_; (try clear hb); (try clear hb2); (try clear hk); (try clear hi)) | ((with_reducible refine gate_callee (f := 7) rfl ?_); refine goesL_ (some 55) rfl rfl Tryd.func7 (by kernel_rfl) rfl #[.string t230] rfl (by (try simp only [List.map_toArray, List.map_cons, List.map_nil]); first | done | rfl | (simp only [List.length_drop, List.length_take]; rfl)) ?_; (with_reducible refine (pack_Decode.calls k t230 t231 t232 _ ?side1 A12.out).mono ?_); (case side1 => exact TabW.below HTb.out (by repeat (first | (with_reducible first | exact HB.out | apply below_alloc | apply pw_below_drewN | apply below_drew1) | exact HB.out))); rintro e w54 ⟨v233, rfl, ho0, hb⟩; refine ⟨_, rfl, ?_⟩; have n0_ := Aside0.mk (Kd.R_elder' (by (with_reducible repeat (first | apply Kd.R_alloc | apply Kd.R_drewN | apply Kd.R_drew)); exact HO201.out) (Kd.R_base ho0) hb); have n1_ := Aside0.mk (Kd.R_elder' (by (with_reducible repeat (first | apply Kd.R_alloc | apply Kd.R_drewN | apply Kd.R_drew)); exact HO206.out) (Kd.R_base ho0) hb); have n2_ := Aside0.mk (Kd.R_elder' (by (with_reducible repeat (first | apply Kd.R_alloc | apply Kd.R_drewN | apply Kd.R_drew)); exact HO210.out) (Kd.R_base ho0) hb); have n3_ := Aside0.mk (Kd.R_elder' (by (with_reducible repeat (first | apply Kd.R_alloc | apply Kd.R_drewN | apply Kd.R_drew)); exact HO214.out) (Kd.R_base ho0) hb); have n4_ := Aside0.mk (Kd.R_elder' (by (with_reducible repeat (first | apply Kd.R_alloc | apply Kd.R_drewN | apply Kd.R_drew)); exact HO219.out) (Kd.R_base ho0) hb); have n5_ := Aside0.mk (Kd.R_elder' (by (with_reducible repeat (first | apply Kd.R_alloc | apply Kd.R_drewN | apply Kd.R_drew)); exact HO224.out) (Kd.R_base ho0) hb); have n6_ := Aside0.mk (Kd.R_elder' (by (with_reducible repeat (first | apply Kd.R_alloc | apply Kd.R_drewN | apply Kd.R_drew)); exact HO229.out) (Kd.R_base ho0) hb); have n7_ := Aside0.mk (Kd.R_lower (Kd.R_new' (Kd.R_new' (Kd.R_new' (Kd.R_new' (Kd.R_new' (Kd.R_new' (Kd.R_new' ho0 (Kd.R_lt (by (with_reducible repeat (first | apply Kd.R_alloc | apply Kd.R_drewN | apply Kd.R_drew)); exact HO201.out))) (Kd.R_lt (by (with_reducible repeat (first | apply Kd.R_alloc | apply Kd.R_drewN | apply Kd.R_drew)); exact HO206.out))) (Kd.R_lt (by (with_reducible repeat (first | apply Kd.R_alloc | apply Kd.R_drewN | apply Kd.R_drew)); exact HO210.out))) (Kd.R_lt (by (with_reducible repeat (first | apply Kd.R_alloc | apply Kd.R_drewN | apply Kd.R_drew)); exact HO214.out))) (Kd.R_lt (by (with_reducible repeat (first | apply Kd.R_alloc | apply Kd.R_drewN | apply Kd.R_drew)); exact HO219.out))) (Kd.R_lt (by (with_reducible repeat (first | apply Kd.R_alloc | apply Kd.R_drewN | apply Kd.R_drew)); exact HO224.out))) (Kd.R_lt (by (with_reducible repeat (first | apply Kd.R_alloc | apply Kd.R_drewN | apply Kd.R_drew)); exact HO229.out))) (below_size (by repeat (first | (with_reducible first | exact HB.out | apply below_alloc | apply pw_below_drewN | apply below_drew1) | exact HB.out)))); have n8_ := Aside0.mk (below_step (by repeat (first | (with_reducible first | exact HB.out | apply below_alloc | apply pw_below_drewN | apply below_drew1) | exact HB.out)) hb); clear HO201; clear HO206; clear HO210; clear HO214; clear HO219; clear HO224; clear HO229; clear HB; have HO201 := n0_; have HO206 := n1_; have HO210 := n2_; have HO214 := n3_; have HO219 := n4_; have HO224 := n5_; have HO229 := n6_; have HO234 := n7_; have HB := n8_; clear n0_ n1_ n2_ n3_ n4_ n5_ n6_ n7_ n8_; (try clear hb); (try clear hb2); (try clear hk); (try clear hi); (try clear ho0)) | ((with_reducible refine gate_callee (f := 9) rfl ?_); refine goesL_ (some 59) rfl rfl Tryd.func9 (by kernel_rfl) rfl #[.string (⟨#[67, 76, 69, 87, 1, 2]⟩ : ByteArray)] rfl (by (try simp only [List.map_toArray, List.map_cons, List.map_nil]); first | done | rfl | (simp only [List.length_drop, List.length_take]; rfl)) ?_; (with_reducible refine (crc_Seal.calls (⟨#[67, 76, 69, 87, 1, 2]⟩ : ByteArray) t235 _ ?side1 A13.out).mono ?_); (case side1 => exact TabW.below HTb.out (by repeat (first | (with_reducible first | exact HB.out | apply below_alloc | apply pw_below_drewN | apply below_drew1) | exact HB.out))); rintro e w55 ⟨rfl, hb⟩; refine ⟨_, rfl, ?_⟩; have n0_ := Aside0.mk (Kd.R_below (by (with_reducible repeat (first | apply Kd.R_alloc | apply Kd.R_drewN | apply Kd.R_drew)); exact HO201.out) hb); have n1_ := Aside0.mk (Kd.R_below (by (with_reducible repeat (first | apply Kd.R_alloc | apply Kd.R_drewN | apply Kd.R_drew)); exact HO206.out) hb); have n2_ := Aside0.mk (Kd.R_below (by (with_reducible repeat (first | apply Kd.R_alloc | apply Kd.R_drewN | apply Kd.R_drew)); exact HO210.out) hb); have n3_ := Aside0.mk (Kd.R_below (by (with_reducible repeat (first | apply Kd.R_alloc | apply Kd.R_drewN | apply Kd.R_drew)); exact HO214.out) hb); have n4_ := Aside0.mk (Kd.R_below (by (with_reducible repeat (first | apply Kd.R_alloc | apply Kd.R_drewN | apply Kd.R_drew)); exact HO219.out) hb); have n5_ := Aside0.mk (Kd.R_below (by (with_reducible repeat (first | apply Kd.R_alloc | apply Kd.R_drewN | apply Kd.R_drew)); exact HO224.out) hb); have n6_ := Aside0.mk (Kd.R_below (by (with_reducible repeat (first | apply Kd.R_alloc | apply Kd.R_drewN | apply Kd.R_drew)); exact HO229.out) hb); have n7_ := Aside0.mk (Kd.R_below (by (with_reducible repeat (first | apply Kd.R_alloc | apply Kd.R_drewN | apply Kd.R_drew)); exact HO234.out) hb); have n8_ := Aside0.mk (below_step (by repeat (first | (with_reducible first | exact HB.out | apply below_alloc | apply pw_below_drewN | apply below_drew1) | exact HB.out)) hb); clear HO201; clear HO206; clear HO210; clear HO214; clear HO219; clear HO224; clear HO229; clear HO234; clear HB; have HO201 := n0_; have HO206 := n1_; have HO210 := n2_; have HO214 := n3_; have HO219 := n4_; have HO224 := n5_; have HO229 := n6_; have HO234 := n7_; have HB := n8_; clear n0_ n1_ n2_ n3_ n4_ n5_ n6_ n7_ n8_; (try clear hb); (try clear hb2); (try clear hk); (try clear hi)) | ((with_reducible refine gate_callee (f := 7) rfl ?_); refine goesL_ (some 60) rfl rfl Tryd.func7 (by kernel_rfl) rfl #[.string t235] rfl (by (try simp only [List.map_toArray, List.map_cons, List.map_nil]); first | done | rfl | (simp only [List.length_drop, List.length_take]; rfl)) ?_; (with_reducible refine (pack_Decode.calls k t235 t236 t237 _ ?side1 A14.out).mono ?_); (case side1 => exact TabW.below HTb.out (by repeat (first | (with_reducible first | exact HB.out | apply below_alloc | apply pw_below_drewN | apply below_drew1) | exact HB.out))); rintro e w56 ⟨v238, rfl, ho0, hb⟩; refine ⟨_, rfl, ?_⟩; have n0_ := Aside0.mk (Kd.R_elder' (by (with_reducible repeat (first | apply Kd.R_alloc | apply Kd.R_drewN | apply Kd.R_drew)); exact HO201.out) (Kd.R_base ho0) hb); have n1_ := Aside0.mk (Kd.R_elder' (by (with_reducible repeat (first | apply Kd.R_alloc | apply Kd.R_drewN | apply Kd.R_drew)); exact HO206.out) (Kd.R_base ho0) hb); have n2_ := Aside0.mk (Kd.R_elder' (by (with_reducible repeat (first | apply Kd.R_alloc | apply Kd.R_drewN | apply Kd.R_drew)); exact HO210.out) (Kd.R_base ho0) hb); have n3_ := Aside0.mk (Kd.R_elder' (by (with_reducible repeat (first | apply Kd.R_alloc | apply Kd.R_drewN | apply Kd.R_drew)); exact HO214.out) (Kd.R_base ho0) hb); have n4_ := Aside0.mk (Kd.R_elder' (by (with_reducible repeat (first | apply Kd.R_alloc | apply Kd.R_drewN | apply Kd.R_drew)); exact HO219.out) (Kd.R_base ho0) hb); have n5_ := Aside0.mk (Kd.R_elder' (by (with_reducible repeat (first | apply Kd.R_alloc | apply Kd.R_drewN | apply Kd.R_drew)); exact HO224.out) (Kd.R_base ho0) hb); have n6_ := Aside0.mk (Kd.R_elder' (by (with_reducible repeat (first | apply Kd.R_alloc | apply Kd.R_drewN | apply Kd.R_drew)); exact HO229.out) (Kd.R_base ho0) hb); have n7_ := Aside0.mk (Kd.R_elder' (by (with_reducible repeat (first | apply Kd.R_alloc | apply Kd.R_drewN | apply Kd.R_drew)); exact HO234.out) (Kd.R_base ho0) hb); have n8_ := Aside0.mk (Kd.R_lower (Kd.R_new' (Kd.R_new' (Kd.R_new' (Kd.R_new' (Kd.R_new' (Kd.R_new' (Kd.R_new' (Kd.R_new' ho0 (Kd.R_lt (by (with_reducible repeat (first | apply Kd.R_alloc | apply Kd.R_drewN | apply Kd.R_drew)); exact HO201.out))) (Kd.R_lt (by (with_reducible repeat (first | apply Kd.R_alloc | apply Kd.R_drewN | apply Kd.R_drew)); exact HO206.out))) (Kd.R_lt (by (with_reducible repeat (first | apply Kd.R_alloc | apply Kd.R_drewN | apply Kd.R_drew)); exact HO210.out))) (Kd.R_lt (by (with_reducible repeat (first | apply Kd.R_alloc | apply Kd.R_drewN | apply Kd.R_drew)); exact HO214.out))) (Kd.R_lt (by (with_reducible repeat (first | apply Kd.R_alloc | apply Kd.R_drewN | apply Kd.R_drew)); exact HO219.out))) (Kd.R_lt (by (with_reducible repeat (first | apply Kd.R_alloc | apply Kd.R_drewN | apply Kd.R_drew)); exact HO224.out))) (Kd.R_lt (by (with_reducible repeat (first | apply Kd.R_alloc | apply Kd.R_drewN | apply Kd.R_drew)); exact HO229.out))) (Kd.R_lt (by (with_reducible repeat (first | apply Kd.R_alloc | apply Kd.R_drewN | apply Kd.R_drew)); exact HO234.out))) (below_size (by repeat (first | (with_reducible first | exact HB.out | apply below_alloc | apply pw_below_drewN | apply below_drew1) | exact HB.out)))); have n9_ := Aside0.mk (below_step (by repeat (first | (with_reducible first | exact HB.out | apply below_alloc | apply pw_below_drewN | apply below_drew1) | exact HB.out)) hb); clear HO201; clear HO206; clear HO210; clear HO214; clear HO219; clear HO224; clear HO229; clear HO234; clear HB; have HO201 := n0_; have HO206 := n1_; have HO210 := n2_; have HO214 := n3_; have HO219 := n4_; have HO224 := n5_; have HO229 := n6_; have HO234 := n7_; have HO239 := n8_; have HB := n9_; clear n0_ n1_ n2_ n3_ n4_ n5_ n6_ n7_ n8_ n9_; (try clear hb); (try clear hb2); (try clear hk); (try clear hi); (try clear ho0); obtain ⟨Ao57, co57, eo57⟩ := Kd.R_slice HO206.out; subst eo57))
  have n0_ := Aside0.mk (Kd.R_drew HO201.out)
  have n1_ := Aside0.mk (Kd.R_drew HO206.out)
  have n2_ := Aside0.mk (Kd.R_drew HO210.out)
  have n3_ := Aside0.mk (Kd.R_drew HO214.out)
  have n4_ := Aside0.mk (Kd.R_drew HO219.out)
  have n5_ := Aside0.mk (Kd.R_drew HO224.out)
  have n6_ := Aside0.mk (Kd.R_drew HO229.out)
  have n7_ := Aside0.mk (Kd.R_drew HO234.out)
  have n8_ := Aside0.mk (Kd.R_drew HO239.out)
  have n9_ := Aside0.mk (below_drew1 HB.out)
  clear HO201
  clear HO206
  clear HO210
  clear HO214
  clear HO219
  clear HO224
  clear HO229
  clear HO234
  clear HO239
  clear HB
  have HO201 := n0_
  have HO206 := n1_
  have HO210 := n2_
  have HO214 := n3_
  have HO219 := n4_
  have HO224 := n5_
  have HO229 := n6_
  have HO234 := n7_
  have HO239 := n8_
  have HB := n9_
  clear n0_ n1_ n2_ n3_ n4_ n5_ n6_ n7_ n8_ n9_
  have p241 : 0 ≤ (0 : Int) := (by omega)
  have q241 : 0 < (t203.length : Int) := of_decide_eq_true (by first | (with_reducible assumption) | assumption)
  obtain ⟨ad241, e241, hx241_0, hx241_1⟩ := at_T43 (Kd.R_reads' HO206.out).2.2 0 p241 q241
  cases e241
  have qi241 : (0 < t203.length) = True := eq_true (by omega)
  (try rw [show ((0 : Int)).toNat = 0 from rfl] at hx241_0)
  (try rw [show 0 * 2 = 0 from rfl] at hx241_0)
  (try rw [Addr.add_zero'] at hx241_0)
  (try rw [show ((0 : Int)).toNat = 0 from rfl] at hx241_1)
  (try rw [show 0 * 2 = 0 from rfl] at hx241_1)
  (try rw [Addr.add_zero'] at hx241_1)
  replace p241 := eq_true p241
  replace q241 := eq_true q241
  have p242 : 0 ≤ (0 : Int) := (by omega)
  have q242 : 0 < (y199.length : Int) := of_decide_eq_true (by first | (with_reducible assumption) | assumption)
  obtain ⟨ad242, e242, hx242_0, hx242_1⟩ := at_T43 (Kd.R_reads' HO201.out).2.2 0 p242 q242
  cases e242
  have qi242 : (0 < y199.length) = True := eq_true (by omega)
  (try rw [show ((0 : Int)).toNat = 0 from rfl] at hx242_0)
  (try rw [show 0 * 2 = 0 from rfl] at hx242_0)
  (try rw [Addr.add_zero'] at hx242_0)
  (try rw [show ((0 : Int)).toNat = 0 from rfl] at hx242_1)
  (try rw [show 0 * 2 = 0 from rfl] at hx242_1)
  (try rw [Addr.add_zero'] at hx242_1)
  replace p242 := eq_true p242
  replace q242 := eq_true q242
  have p243 : 0 ≤ (1 : Int) := (by omega)
  have q243 : 1 < (t203.length : Int) := of_decide_eq_true (by first | (with_reducible assumption) | assumption)
  obtain ⟨ad243, e243, hx243_0, hx243_1⟩ := at_T43 (Kd.R_reads' HO206.out).2.2 1 p243 q243
  obtain rfl : ad241 = ad243 := (by injection e243)
  (try simp only [show (1 : Int).toNat = 1 from rfl, Nat.reduceMul, Nat.reduceEqDiff, Go.Addr.add, ↓reduceIte] at hx243_0)
  (try simp only [show (1 : Int).toNat = 1 from rfl, Nat.reduceMul, Nat.reduceEqDiff, Go.Addr.add, ↓reduceIte] at hx243_1)
  have qi243 : (1 < t203.length) = True := eq_true (by omega)
  (try rw [show ((1 : Int)).toNat = 1 from rfl] at hx243_0)
  (try rw [show 1 * 2 = 2 from rfl] at hx243_0)
  (try rw [show ((1 : Int)).toNat = 1 from rfl] at hx243_1)
  (try rw [show 1 * 2 = 2 from rfl] at hx243_1)
  replace p243 := eq_true p243
  replace q243 := eq_true q243
  have p244 : 0 ≤ (1 : Int) := (by omega)
  have q244 : 1 < (y199.length : Int) := of_decide_eq_true (by first | (with_reducible assumption) | assumption)
  obtain ⟨ad244, e244, hx244_0, hx244_1⟩ := at_T43 (Kd.R_reads' HO201.out).2.2 1 p244 q244
  obtain rfl : ad242 = ad244 := (by injection e244)
  (try simp only [show (1 : Int).toNat = 1 from rfl, Nat.reduceMul, Nat.reduceEqDiff, Go.Addr.add, ↓reduceIte] at hx244_0)
  (try simp only [show (1 : Int).toNat = 1 from rfl, Nat.reduceMul, Nat.reduceEqDiff, Go.Addr.add, ↓reduceIte] at hx244_1)
  have qi244 : (1 < y199.length) = True := eq_true (by omega)
  (try rw [show ((1 : Int)).toNat = 1 from rfl] at hx244_0)
  (try rw [show 1 * 2 = 2 from rfl] at hx244_0)
  (try rw [show ((1 : Int)).toNat = 1 from rfl] at hx244_1)
  (try rw [show 1 * 2 = 2 from rfl] at hx244_1)
  replace p244 := eq_true p244
  replace q244 := eq_true q244
  have p245 : 0 ≤ (2 : Int) := (by omega)
  have q245 : 2 < (t203.length : Int) := of_decide_eq_true (by first | (with_reducible assumption) | assumption)
  obtain ⟨ad245, e245, hx245_0, hx245_1⟩ := at_T43 (Kd.R_reads' HO206.out).2.2 2 p245 q245
  obtain rfl : ad241 = ad245 := (by injection e245)
  (try simp only [show (2 : Int).toNat = 2 from rfl, Nat.reduceMul, Nat.reduceEqDiff, Go.Addr.add, ↓reduceIte] at hx245_0)
  (try simp only [show (2 : Int).toNat = 2 from rfl, Nat.reduceMul, Nat.reduceEqDiff, Go.Addr.add, ↓reduceIte] at hx245_1)
  have qi245 : (2 < t203.length) = True := eq_true (by omega)
  (try rw [show ((2 : Int)).toNat = 2 from rfl] at hx245_0)
  (try rw [show 2 * 2 = 4 from rfl] at hx245_0)
  (try rw [show ((2 : Int)).toNat = 2 from rfl] at hx245_1)
  (try rw [show 2 * 2 = 4 from rfl] at hx245_1)
  replace p245 := eq_true p245
  replace q245 := eq_true q245
  have p246 : 0 ≤ (2 : Int) := (by omega)
  have q246 : 2 < (y199.length : Int) := of_decide_eq_true (by first | (with_reducible assumption) | assumption)
  obtain ⟨ad246, e246, hx246_0, hx246_1⟩ := at_T43 (Kd.R_reads' HO201.out).2.2 2 p246 q246
  obtain rfl : ad242 = ad246 := (by injection e246)
  (try simp only [show (2 : Int).toNat = 2 from rfl, Nat.reduceMul, Nat.reduceEqDiff, Go.Addr.add, ↓reduceIte] at hx246_0)
  (try simp only [show (2 : Int).toNat = 2 from rfl, Nat.reduceMul, Nat.reduceEqDiff, Go.Addr.add, ↓reduceIte] at hx246_1)
  have qi246 : (2 < y199.length) = True := eq_true (by omega)
  (try rw [show ((2 : Int)).toNat = 2 from rfl] at hx246_0)
  (try rw [show 2 * 2 = 4 from rfl] at hx246_0)
  (try rw [show ((2 : Int)).toNat = 2 from rfl] at hx246_1)
  (try rw [show 2 * 2 = 4 from rfl] at hx246_1)
  replace p246 := eq_true p246
  replace q246 := eq_true q246
  refine start_ (n := 74) (S := fun w' => w'.cell? ad241 = some (.int .i64 ((rd_T43 t203 0).f0)) ∧ w'.cell? ⟨ad241.block, ad241.off + 1, none⟩ = some (.int .i64 ((rd_T43 t203 0).f1)) ∧ w'.cell? ad242 = some (.int .i64 ((rd_T43 y199 0).f0)) ∧ w'.cell? ⟨ad242.block, ad242.off + 1, none⟩ = some (.int .i64 ((rd_T43 y199 0).f1)) ∧ w'.cell? ⟨ad241.block, ad241.off + 2, none⟩ = some (.int .i64 ((rd_T43 t203 1).f0)) ∧ w'.cell? ⟨ad241.block, ad241.off + 2 + 1, none⟩ = some (.int .i64 ((rd_T43 t203 1).f1)) ∧ w'.cell? ⟨ad242.block, ad242.off + 2, none⟩ = some (.int .i64 ((rd_T43 y199 1).f0)) ∧ w'.cell? ⟨ad242.block, ad242.off + 2 + 1, none⟩ = some (.int .i64 ((rd_T43 y199 1).f1)) ∧ w'.cell? ⟨ad241.block, ad241.off + 4, none⟩ = some (.int .i64 ((rd_T43 t203 2).f0)) ∧ w'.cell? ⟨ad241.block, ad241.off + 4 + 1, none⟩ = some (.int .i64 ((rd_T43 t203 2).f1)) ∧ w'.cell? ⟨ad242.block, ad242.off + 4, none⟩ = some (.int .i64 ((rd_T43 y199 2).f0)) ∧ w'.cell? ⟨ad242.block, ad242.off + 4 + 1, none⟩ = some (.int .i64 ((rd_T43 y199 2).f1))) (ds := []) #[false, false, false, false, false, false, false, false, false, false, false, false, false, false, false, false, false, false, false, false, false, false, false, false, false, false, false, false, false, false, false, false, false, false, false, false, false, false, false, false, false, false, false, false, false, false, false, false, false, false, false, false, false, false, false, false, false, false, false, false, false, false, false, false, false, false, false, false, false, false, false, false, false, false] (by kernel_rfl) rfl rfl ⟨hx241_0, hx241_1, hx242_0, hx242_1, hx243_0, hx243_1, hx244_0, hx244_1, hx245_0, hx245_1, hx246_0, hx246_1⟩ (fun hHeld => ?_); refine with_tabW clewlaw16_fixed.tab13 clewlaw16_fixed.bits13 (fun HT_ HW_ => ?_)
  generalize w56.drew = w58 at HO201 HO206 HO210 HO214 HO219 HO224 HO229 HO234 HO239 HB hx241_0 hx241_1 hx242_0 hx242_1 hx243_0 hx243_1 hx244_0 hx244_1 hx245_0 hx245_1 hx246_0 hx246_1 hHeld ⊢
  refine pure_ (i := 0) (N := some 66) (v := ?_) (a' := ?_) #[true, false, false, false, false, false, false, false, false, false, false, false, false, false, false, false, false, false, false, false, false, false, false, false, false, false, false, false, false, false, false, false, false, false, false, false, false, false, false, false, false, false, false, false, false, false, false, false, false, false, false, false, false, false, false, false, false, false, false, false, false, false, false, false, false, false, false, false, false, false, false, false, false, false] rfl rfl (any_of HT_.out (by kernel_rfl)) (fun _ _ _ h => h) (Or.inl ⟨by rfl, ?_⟩) ?_ ?_
  rotate_left
  · intro w'
    go_simp
    with_reducible rfl
  rotate_left
  · simp only [Act.put, List.setIfInBounds_toArray, List.set_cons_zero, List.set_cons_succ, i64_w, i32_w]
    rfl
  refine one_ (i := 1) (N := some 67) #[true, true, false, false, false, false, false, false, false, false, false, false, false, false, false, false, false, false, false, false, false, false, false, false, false, false, false, false, false, false, false, false, false, false, false, false, false, false, false, false, false, false, false, false, false, false, false, false, false, false, false, false, false, false, false, false, false, false, false, false, false, false, false, false, false, false, false, false, false, false, false, false, false, false] rfl rfl (one_of HT_.out (by kernel_rfl)) (by decide) (fun K hK => ?_)
  refine goes_ Tryd.func9 (by kernel_rfl) rfl #[.string (⟨#[67, 76, 69, 87, 3, 18, 1, 3]⟩ : ByteArray)] (by rfl) rfl rfl (by (try simp only [List.map_toArray, List.map_cons, List.map_nil]); first | done | rfl | (simp only [List.length_drop, List.length_take]; rfl)) ?_
  with_reducible refine (crc_Seal.calls (⟨#[67, 76, 69, 87, 3, 18, 1, 3]⟩ : ByteArray) t240 _ ?side1 A16.out).mono ?_
  (case side1 => exact TabW.below HTb.out (by repeat (first | (with_reducible first | exact HB.out | apply below_alloc | apply pw_below_drewN | apply below_drew1) | exact HB.out)))
  rintro e w59 ⟨rfl, hb⟩
  have HS0_ := (hb.cell (World.block_lt_of_cell? _ _ (hHeld.1))).trans (hHeld.1)
  have HS1_ := (hb.cell (World.block_lt_of_cell? _ _ (hHeld.2.1))).trans (hHeld.2.1)
  have HS2_ := (hb.cell (World.block_lt_of_cell? _ _ (hHeld.2.2.1))).trans (hHeld.2.2.1)
  have HS3_ := (hb.cell (World.block_lt_of_cell? _ _ (hHeld.2.2.2.1))).trans (hHeld.2.2.2.1)
  have HS4_ := (hb.cell (World.block_lt_of_cell? _ _ (hHeld.2.2.2.2.1))).trans (hHeld.2.2.2.2.1)
  have HS5_ := (hb.cell (World.block_lt_of_cell? _ _ (hHeld.2.2.2.2.2.1))).trans (hHeld.2.2.2.2.2.1)
  have HS6_ := (hb.cell (World.block_lt_of_cell? _ _ (hHeld.2.2.2.2.2.2.1))).trans (hHeld.2.2.2.2.2.2.1)
  have HS7_ := (hb.cell (World.block_lt_of_cell? _ _ (hHeld.2.2.2.2.2.2.2.1))).trans (hHeld.2.2.2.2.2.2.2.1)
  have HS8_ := (hb.cell (World.block_lt_of_cell? _ _ (hHeld.2.2.2.2.2.2.2.2.1))).trans (hHeld.2.2.2.2.2.2.2.2.1)
  have HS9_ := (hb.cell (World.block_lt_of_cell? _ _ (hHeld.2.2.2.2.2.2.2.2.2.1))).trans (hHeld.2.2.2.2.2.2.2.2.2.1)
  have HS10_ := (hb.cell (World.block_lt_of_cell? _ _ (hHeld.2.2.2.2.2.2.2.2.2.2.1))).trans (hHeld.2.2.2.2.2.2.2.2.2.2.1)
  have HS11_ := (hb.cell (World.block_lt_of_cell? _ _ (hHeld.2.2.2.2.2.2.2.2.2.2.2))).trans (hHeld.2.2.2.2.2.2.2.2.2.2.2)
  refine ⟨_, rfl, ?_⟩
  have n0_ := Aside0.mk (Kd.R_below (by (with_reducible repeat (first | apply Kd.R_alloc | apply Kd.R_drewN | apply Kd.R_drew)); exact HO201.out) hb)
  have n1_ := Aside0.mk (Kd.R_below (by (with_reducible repeat (first | apply Kd.R_alloc | apply Kd.R_drewN | apply Kd.R_drew)); exact HO206.out) hb)
  have n2_ := Aside0.mk (Kd.R_below (by (with_reducible repeat (first | apply Kd.R_alloc | apply Kd.R_drewN | apply Kd.R_drew)); exact HO210.out) hb)
  have n3_ := Aside0.mk (Kd.R_below (by (with_reducible repeat (first | apply Kd.R_alloc | apply Kd.R_drewN | apply Kd.R_drew)); exact HO214.out) hb)
  have n4_ := Aside0.mk (Kd.R_below (by (with_reducible repeat (first | apply Kd.R_alloc | apply Kd.R_drewN | apply Kd.R_drew)); exact HO219.out) hb)
  have n5_ := Aside0.mk (Kd.R_below (by (with_reducible repeat (first | apply Kd.R_alloc | apply Kd.R_drewN | apply Kd.R_drew)); exact HO224.out) hb)
  have n6_ := Aside0.mk (Kd.R_below (by (with_reducible repeat (first | apply Kd.R_alloc | apply Kd.R_drewN | apply Kd.R_drew)); exact HO229.out) hb)
  have n7_ := Aside0.mk (Kd.R_below (by (with_reducible repeat (first | apply Kd.R_alloc | apply Kd.R_drewN | apply Kd.R_drew)); exact HO234.out) hb)
  have n8_ := Aside0.mk (Kd.R_below (by (with_reducible repeat (first | apply Kd.R_alloc | apply Kd.R_drewN | apply Kd.R_drew)); exact HO239.out) hb)
  have n9_ := Aside0.mk (below_step (by repeat (first | (with_reducible first | exact HB.out | apply below_alloc | apply pw_below_drewN | apply below_drew1) | exact HB.out)) hb)
  clear HO201
  clear HO206
  clear HO210
  clear HO214
  clear HO219
  clear HO224
  clear HO229
  clear HO234
  clear HO239
  clear HB
  have HO201 := n0_
  have HO206 := n1_
  have HO210 := n2_
  have HO214 := n3_
  have HO219 := n4_
  have HO224 := n5_
  have HO229 := n6_
  have HO234 := n7_
  have HO239 := n8_
  have HB := n9_
  clear n0_ n1_ n2_ n3_ n4_ n5_ n6_ n7_ n8_ n9_
  (try clear hb)
  (try clear hb2)
  (try clear hk)
  (try clear hi)
  have q60 : (2 : Int) ≤ ((y199.length : Int) : Int) := of_decide_eq_true (by first | (with_reducible assumption) | assumption)
  obtain ⟨i060, hi060, _, hsz60, _⟩ := info_parts info43
  have hroom60 : y199.length ≤ co42 := (Kd.R_reads' HO201.out).2.1
  have hC60 : Kd.C k43 _ (some ad242) y199.length y199 := (Kd.R_reads' HO201.out).2.2
  have hcut60 := cut_from (P := Tryd.prog) 22 43 .i64 Tryd.underlying22 hi060 2 hsz60 (some ad242) y199.length co42 2 (by omega) q60
  have hr60 := Kd.C_drop (m := (2 : Int).toNat) (c := co42) hC60 (by omega) hroom60
  obtain ⟨A60, hA60⟩ : ∃ A1, A1 = (if co42 = (2 : Int).toNat then (some ad242) else ((some ad242) : Option Addr).map (·.add ((2 : Int).toNat * 2))) := ⟨_, rfl⟩
  obtain ⟨c60, hc60⟩ : ∃ c1, c1 = co42 - (2 : Int).toNat := ⟨_, rfl⟩
  have hy60 : y247.length = y199.length - (2 : Int).toNat := (by rw [Ny247.out, List.length_drop] <;> omega)
  rw [show (y199).drop (2 : Int).toNat = y247 from Ny247.out.symm] at hr60
  replace hr60 : Kd.C k43 _ A60 y247.length y247 := (by rw [hA60]; exact hr60)
  rw [← hy60, ← hA60, ← hc60] at hcut60
  have HR250 := Aside0.mk hr60
  have HC250 := Aside0.mk (show y247.length ≤ c60 from by rw [hy60, hc60]; exact Nat.sub_le_sub_right hroom60 _)
  clear hr60 hC60 hroom60 hi060 hsz60 hc60
  have KY60 := Aside0.mk hy60
  have KA60 := Aside0.mk hA60
  clear hy60 hA60
  have KL60 := Aside0.mk (show 2 ≤ y199.length from by omega)
  replace q60 := eq_true q60
  refine hK.out _ _ ⟨HS0_, HS1_, HS2_, HS3_, HS4_, HS5_, HS6_, HS7_, HS8_, HS9_, HS10_, HS11_⟩ (fun hHeld => ?_)
  clear hK K
  refine norm_ (a' := ?_) ?_ ?_
  rotate_left
  · show Act.put _ (some 67) _ = _
    simp only [Act.put, List.setIfInBounds_toArray, List.set_cons_zero, List.set_cons_succ, i64_w, i32_w]
    rfl
  refine pure_ (i := 2) (N := some 68) (v := ?_) (a' := ?_) #[true, true, true, false, false, false, false, false, false, false, false, false, false, false, false, false, false, false, false, false, false, false, false, false, false, false, false, false, false, false, false, false, false, false, false, false, false, false, false, false, false, false, false, false, false, false, false, false, false, false, false, false, false, false, false, false, false, false, false, false, false, false, false, false, false, false, false, false, false, false, false, false, false, false] rfl rfl (any_of HT_.out (by kernel_rfl)) (fun _ _ _ h => h) (Or.inl ⟨by rfl, ?_⟩) ?_ ?_
  rotate_left
  · intro w'
    go_simp
    with_reducible rfl
  rotate_left
  · simp only [Act.put, List.setIfInBounds_toArray, List.set_cons_zero, List.set_cons_succ, i64_w, i32_w]
    rfl
  refine pure_ (i := 3) (N := some 69) (v := ?_) (a' := ?_) #[true, true, true, true, false, false, false, false, false, false, false, false, false, false, false, false, false, false, false, false, false, false, false, false, false, false, false, false, false, false, false, false, false, false, false, false, false, false, false, false, false, false, false, false, false, false, false, false, false, false, false, false, false, false, false, false, false, false, false, false, false, false, false, false, false, false, false, false, false, false, false, false, false, false] rfl rfl (any_of HT_.out (by kernel_rfl)) (fun _ _ _ h => h) (Or.inl ⟨by rfl, ?_⟩) ?_ ?_
  rotate_left
  · intro w'
    go_simp
    with_reducible rfl
  rotate_left
  · simp only [Act.put, List.setIfInBounds_toArray, List.set_cons_zero, List.set_cons_succ, i64_w, i32_w]
    rfl
  refine pure_ (i := 4) (N := some 70) (v := ?_) (a' := ?_) #[true, true, true, true, true, false, false, false, false, false, false, false, false, false, false, false, false, false, false, false, false, false, false, false, false, false, false, false, false, false, false, false, false, false, false, false, false, false, false, false, false, false, false, false, false, false, false, false, false, false, false, false, false, false, false, false, false, false, false, false, false, false, false, false, false, false, false, false, false, false, false, false, false, false] rfl rfl (any_of HT_.out (by kernel_rfl)) (fun _ _ _ h => h) (Or.inl ⟨by rfl, ?_⟩) ?_ ?_
  rotate_left
  · intro w'
    go_simp
    with_reducible rfl
  rotate_left
  · simp only [Act.put, List.setIfInBounds_toArray, List.set_cons_zero, List.set_cons_succ, i64_w, i32_w]
    rfl
  refine pure_ (i := 5) (N := some 71) (v := ?_) (a' := ?_) #[true, true, true, true, true, true, false, false, false, false, false, false, false, false, false, false, false, false, false, false, false, false, false, false, false, false, false, false, false, false, false, false, false, false, false, false, false, false, false, false, false, false, false, false, false, false, false, false, false, false, false, false, false, false, false, false, false, false, false, false, false, false, false, false, false, false, false, false, false, false, false, false, false, false] rfl rfl (any_of HT_.out (by kernel_rfl)) (fun _ _ _ h => h) (Or.inl ⟨by rfl, ?_⟩) ?_ ?_
  rotate_left
  · intro w'
    go_simp
    with_reducible rfl
  rotate_left
  · simp only [Act.put, List.setIfInBounds_toArray, List.set_cons_zero, List.set_cons_succ, i64_w, i32_w]
    rfl
  refine pure_ (i := 6) (N := some 72) (v := ?_) (a' := ?_) #[true, true, true, true, true, true, true, false, false, false, false, false, false, false, false, false, false, false, false, false, false, false, false, false, false, false, false, false, false, false, false, false, false, false, false, false, false, false, false, false, false, false, false, false, false, false, false, false, false, false, false, false, false, false, false, false, false, false, false, false, false, false, false, false, false, false, false, false, false, false, false, false, false, false] rfl rfl (any_of HT_.out (by kernel_rfl)) (fun _ _ _ h => h) (Or.inl ⟨by rfl, ?_⟩) ?_ ?_
  rotate_left
  · intro w'
    go_simp
    with_reducible rfl
  rotate_left
  · simp only [Act.put, List.setIfInBounds_toArray, List.set_cons_zero, List.set_cons_succ, i64_w, i32_w]
    rfl
  refine pure_ (i := 7) (N := some 73) (v := ?_) (a' := ?_) #[true, true, true, true, true, true, true, true, false, false, false, false, false, false, false, false, false, false, false, false, false, false, false, false, false, false, false, false, false, false, false, false, false, false, false, false, false, false, false, false, false, false, false, false, false, false, false, false, false, false, false, false, false, false, false, false, false, false, false, false, false, false, false, false, false, false, false, false, false, false, false, false, false, false] rfl rfl (any_of HT_.out (by kernel_rfl)) (fun _ _ _ h => h) (Or.inl ⟨by rfl, ?_⟩) ?_ ?_
  rotate_left
  · intro w'
    go_simp
    with_reducible rfl
  rotate_left
  · simp only [Act.put, List.setIfInBounds_toArray, List.set_cons_zero, List.set_cons_succ, i64_w, i32_w]
    rfl
  refine pure_ (i := 8) (N := some 74) (v := ?_) (a' := ?_) #[true, true, true, true, true, true, true, true, true, false, false, false, false, false, false, false, false, false, false, false, false, false, false, false, false, false, false, false, false, false, false, false, false, false, false, false, false, false, false, false, false, false, false, false, false, false, false, false, false, false, false, false, false, false, false, false, false, false, false, false, false, false, false, false, false, false, false, false, false, false, false, false, false, false] rfl rfl (any_of HT_.out (by kernel_rfl)) (fun _ _ _ h => h) (Or.inl ⟨by rfl, ?_⟩) ?_ ?_
  rotate_left
  · intro w'
    go_simp
    with_reducible rfl
  rotate_left
  · simp only [Act.put, List.setIfInBounds_toArray, List.set_cons_zero, List.set_cons_succ, i64_w, i32_w]
    rfl
  refine pure_ (i := 9) (N := some 75) (v := ?_) (a' := ?_) #[true, true, true, true, true, true, true, true, true, true, false, false, false, false, false, false, false, false, false, false, false, false, false, false, false, false, false, false, false, false, false, false, false, false, false, false, false, false, false, false, false, false, false, false, false, false, false, false, false, false, false, false, false, false, false, false, false, false, false, false, false, false, false, false, false, false, false, false, false, false, false, false, false, false] rfl rfl (any_of HT_.out (by kernel_rfl)) (fun _ _ _ h => h) (Or.inl ⟨by rfl, ?_⟩) ?_ ?_
  rotate_left
  · intro w'
    go_simp
    with_reducible rfl
  rotate_left
  · simp only [Act.put, List.setIfInBounds_toArray, List.set_cons_zero, List.set_cons_succ, i64_w, i32_w]
    rfl
  refine pure_ (i := 11) (N := some 77) (v := ?_) (a' := ?_) #[true, true, true, true, true, true, true, true, true, true, false, true, false, false, false, false, false, false, false, false, false, false, false, false, false, false, false, false, false, false, false, false, false, false, false, false, false, false, false, false, false, false, false, false, false, false, false, false, false, false, false, false, false, false, false, false, false, false, false, false, false, false, false, false, false, false, false, false, false, false, false, false, false, false] rfl rfl (any_of HT_.out (by kernel_rfl)) (fun _ _ _ h => h) (Or.inl ⟨by rfl, ?_⟩) ?_ ?_
  rotate_left
  · intro w'
    go_simp
    with_reducible rfl
  rotate_left
  · simp only [Act.put, List.setIfInBounds_toArray, List.set_cons_zero, List.set_cons_succ, i64_w, i32_w]
    rfl
  refine pure_ (i := 12) (N := some 78) (v := ?_) (a' := ?_) #[true, true, true, true, true, true, true, true, true, true, false, true, true, false, false, false, false, false, false, false, false, false, false, false, false, false, false, false, false, false, false, false, false, false, false, false, false, false, false, false, false, false, false, false, false, false, false, false, false, false, false, false, false, false, false, false, false, false, false, false, false, false, false, false, false, false, false, false, false, false, false, false, false, false] rfl rfl (any_of HT_.out (by kernel_rfl)) (fun _ _ _ h => h) (Or.inl ⟨by rfl, ?_⟩) ?_ ?_
  rotate_left
  · intro w'
    go_simp
    with_reducible rfl
  rotate_left
  · simp only [Act.put, List.setIfInBounds_toArray, List.set_cons_zero, List.set_cons_succ, i64_w, i32_w]
    rfl
  refine take_ (i := 10) (N := some 76) (v := ?_) (a' := ?_) #[true, true, true, true, true, true, true, true, true, true, true, true, true, false, false, false, false, false, false, false, false, false, false, false, false, false, false, false, false, false, false, false, false, false, false, false, false, false, false, false, false, false, false, false, false, false, false, false, false, false, false, false, false, false, false, false, false, false, false, false, false, false, false, false, false, false, false, false, false, false, false, false, false, false] rfl rfl (take_ofW HT_.out HW_.out (by kernel_rfl)) (fun _ _ _ h => h) (Or.inl ⟨by rfl, ?_⟩) hHeld ?_ ?_
  rotate_left
  · rintro w' ⟨s0, s1, s2, s3, s4, s5, s6, s7, s8, s9, s10, s11⟩
    go_simp
    with_reducible rfl
  rotate_left
  · simp only [Act.put, List.setIfInBounds_toArray, List.set_cons_zero, List.set_cons_succ, i64_w, i32_w]
    rfl
  refine take_ (i := 13) (N := some 79) (v := ?_) (a' := ?_) #[true, true, true, true, true, true, true, true, true, true, true, true, true, true, false, false, false, false, false, false, false, false, false, false, false, false, false, false, false, false, false, false, false, false, false, false, false, false, false, false, false, false, false, false, false, false, false, false, false, false, false, false, false, false, false, false, false, false, false, false, false, false, false, false, false, false, false, false, false, false, false, false, false, false] rfl rfl (take_ofW HT_.out HW_.out (by kernel_rfl)) (fun _ _ _ h => h) (Or.inl ⟨by rfl, ?_⟩) hHeld ?_ ?_
  rotate_left
  · rintro w' ⟨s0, s1, s2, s3, s4, s5, s6, s7, s8, s9, s10, s11⟩
    go_simp
    with_reducible rfl
  rotate_left
  · simp only [Act.put, List.setIfInBounds_toArray, List.set_cons_zero, List.set_cons_succ, i64_w, i32_w]
    rfl
  refine pure_ (i := 14) (N := some 80) (v := ?_) (a' := ?_) #[true, true, true, true, true, true, true, true, true, true, true, true, true, true, true, false, false, false, false, false, false, false, false, false, false, false, false, false, false, false, false, false, false, false, false, false, false, false, false, false, false, false, false, false, false, false, false, false, false, false, false, false, false, false, false, false, false, false, false, false, false, false, false, false, false, false, false, false, false, false, false, false, false, false] rfl rfl (any_of HT_.out (by kernel_rfl)) (fun _ _ _ h => h) (Or.inl ⟨by rfl, ?_⟩) ?_ ?_
  rotate_left
  · intro w'
    go_simp
    with_reducible rfl
  rotate_left
  · simp only [Act.put, List.setIfInBounds_toArray, List.set_cons_zero, List.set_cons_succ, i64_w, i32_w]
    rfl
  refine pure_ (i := 15) (N := some 81) (v := ?_) (a' := ?_) #[true, true, true, true, true, true, true, true, true, true, true, true, true, true, true, true, false, false, false, false, false, false, false, false, false, false, false, false, false, false, false, false, false, false, false, false, false, false, false, false, false, false, false, false, false, false, false, false, false, false, false, false, false, false, false, false, false, false, false, false, false, false, false, false, false, false, false, false, false, false, false, false, false, false] rfl rfl (any_of HT_.out (by kernel_rfl)) (fun _ _ _ h => h) (Or.inl ⟨by rfl, ?_⟩) ?_ ?_
  rotate_left
  · intro w'
    go_simp
    with_reducible rfl
  rotate_left
  · simp only [Act.put, List.setIfInBounds_toArray, List.set_cons_zero, List.set_cons_succ, i64_w, i32_w]
    rfl
  refine pure_ (i := 16) (N := some 82) (v := ?_) (a' := ?_) #[true, true, true, true, true, true, true, true, true, true, true, true, true, true, true, true, true, false, false, false, false, false, false, false, false, false, false, false, false, false, false, false, false, false, false, false, false, false, false, false, false, false, false, false, false, false, false, false, false, false, false, false, false, false, false, false, false, false, false, false, false, false, false, false, false, false, false, false, false, false, false, false, false, false] rfl rfl (any_of HT_.out (by kernel_rfl)) (fun _ _ _ h => h) (Or.inl ⟨by rfl, ?_⟩) ?_ ?_
  rotate_left
  · intro w'
    go_simp
    with_reducible rfl
  rotate_left
  · simp only [Act.put, List.setIfInBounds_toArray, List.set_cons_zero, List.set_cons_succ, i64_w, i32_w]
    rfl
  refine pure_ (i := 17) (N := some 83) (v := ?_) (a' := ?_) #[true, true, true, true, true, true, true, true, true, true, true, true, true, true, true, true, true, true, false, false, false, false, false, false, false, false, false, false, false, false, false, false, false, false, false, false, false, false, false, false, false, false, false, false, false, false, false, false, false, false, false, false, false, false, false, false, false, false, false, false, false, false, false, false, false, false, false, false, false, false, false, false, false, false] rfl rfl (any_of HT_.out (by kernel_rfl)) (fun _ _ _ h => h) (Or.inl ⟨by rfl, ?_⟩) ?_ ?_
  rotate_left
  · intro w'
    go_simp
    with_reducible rfl
  rotate_left
  · simp only [Act.put, List.setIfInBounds_toArray, List.set_cons_zero, List.set_cons_succ, i64_w, i32_w]
    rfl
  refine pure_ (i := 18) (N := some 84) (v := ?_) (a' := ?_) #[true, true, true, true, true, true, true, true, true, true, true, true, true, true, true, true, true, true, true, false, false, false, false, false, false, false, false, false, false, false, false, false, false, false, false, false, false, false, false, false, false, false, false, false, false, false, false, false, false, false, false, false, false, false, false, false, false, false, false, false, false, false, false, false, false, false, false, false, false, false, false, false, false, false] rfl rfl (any_of HT_.out (by kernel_rfl)) (fun _ _ _ h => h) (Or.inl ⟨by rfl, ?_⟩) ?_ ?_
  rotate_left
  · intro w'
    go_simp
    with_reducible rfl
  rotate_left
  · simp only [Act.put, List.setIfInBounds_toArray, List.set_cons_zero, List.set_cons_succ, i64_w, i32_w]
    rfl
  refine pure_ (i := 20) (N := some 86) (v := ?_) (a' := ?_) #[true, true, true, true, true, true, true, true, true, true, true, true, true, true, true, true, true, true, true, false, true, false, false, false, false, false, false, false, false, false, false, false, false, false, false, false, false, false, false, false, false, false, false, false, false, false, false, false, false, false, false, false, false, false, false, false, false, false, false, false, false, false, false, false, false, false, false, false, false, false, false, false, false, false] rfl rfl (any_of HT_.out (by kernel_rfl)) (fun _ _ _ h => h) (Or.inl ⟨by rfl, ?_⟩) ?_ ?_
  rotate_left
  · intro w'
    go_simp
    with_reducible rfl
  rotate_left
  · simp only [Act.put, List.setIfInBounds_toArray, List.set_cons_zero, List.set_cons_succ, i64_w, i32_w]
    rfl
  refine pure_ (i := 21) (N := some 87) (v := ?_) (a' := ?_) #[true, true, true, true, true, true, true, true, true, true, true, true, true, true, true, true, true, true, true, false, true, true, false, false, false, false, false, false, false, false, false, false, false, false, false, false, false, false, false, false, false, false, false, false, false, false, false, false, false, false, false, false, false, false, false, false, false, false, false, false, false, false, false, false, false, false, false, false, false, false, false, false, false, false] rfl rfl (any_of HT_.out (by kernel_rfl)) (fun _ _ _ h => h) (Or.inl ⟨by rfl, ?_⟩) ?_ ?_
  rotate_left
  · intro w'
    go_simp
    with_reducible rfl
  rotate_left
  · simp only [Act.put, List.setIfInBounds_toArray, List.set_cons_zero, List.set_cons_succ, i64_w, i32_w]
    rfl
  refine take_ (i := 19) (N := some 85) (v := ?_) (a' := ?_) #[true, true, true, true, true, true, true, true, true, true, true, true, true, true, true, true, true, true, true, true, true, true, false, false, false, false, false, false, false, false, false, false, false, false, false, false, false, false, false, false, false, false, false, false, false, false, false, false, false, false, false, false, false, false, false, false, false, false, false, false, false, false, false, false, false, false, false, false, false, false, false, false, false, false] rfl rfl (take_ofW HT_.out HW_.out (by kernel_rfl)) (fun _ _ _ h => h) (Or.inl ⟨by rfl, ?_⟩) hHeld ?_ ?_
  rotate_left
  · rintro w' ⟨s0, s1, s2, s3, s4, s5, s6, s7, s8, s9, s10, s11⟩
    go_simp
    with_reducible rfl
  rotate_left
  · simp only [Act.put, List.setIfInBounds_toArray, List.set_cons_zero, List.set_cons_succ, i64_w, i32_w]
    rfl
  refine take_ (i := 22) (N := some 88) (v := ?_) (a' := ?_) #[true, true, true, true, true, true, true, true, true, true, true, true, true, true, true, true, true, true, true, true, true, true, true, false, false, false, false, false, false, false, false, false, false, false, false, false, false, false, false, false, false, false, false, false, false, false, false, false, false, false, false, false, false, false, false, false, false, false, false, false, false, false, false, false, false, false, false, false, false, false, false, false, false, false] rfl rfl (take_ofW HT_.out HW_.out (by kernel_rfl)) (fun _ _ _ h => h) (Or.inl ⟨by rfl, ?_⟩) hHeld ?_ ?_
  rotate_left
  · rintro w' ⟨s0, s1, s2, s3, s4, s5, s6, s7, s8, s9, s10, s11⟩
    go_simp
    with_reducible rfl
  rotate_left
  · simp only [Act.put, List.setIfInBounds_toArray, List.set_cons_zero, List.set_cons_succ, i64_w, i32_w]
    rfl
  refine pure_ (i := 23) (N := some 89) (v := ?_) (a' := ?_) #[true, true, true, true, true, true, true, true, true, true, true, true, true, true, true, true, true, true, true, true, true, true, true, true, false, false, false, false, false, false, false, false, false, false, false, false, false, false, false, false, false, false, false, false, false, false, false, false, false, false, false, false, false, false, false, false, false, false, false, false, false, false, false, false, false, false, false, false, false, false, false, false, false, false] rfl rfl (any_of HT_.out (by kernel_rfl)) (fun _ _ _ h => h) (Or.inl ⟨by rfl, ?_⟩) ?_ ?_
  rotate_left
  · intro w'
    go_simp
    with_reducible rfl
  rotate_left
  · simp only [Act.put, List.setIfInBounds_toArray, List.set_cons_zero, List.set_cons_succ, i64_w, i32_w]
    rfl
  refine pure_ (i := 24) (N := some 90) (v := ?_) (a' := ?_) #[true, true, true, true, true, true, true, true, true, true, true, true, true, true, true, true, true, true, true, true, true, true, true, true, true, false, false, false, false, false, false, false, false, false, false, false, false, false, false, false, false, false, false, false, false, false, false, false, false, false, false, false, false, false, false, false, false, false, false, false, false, false, false, false, false, false, false, false, false, false, false, false, false, false] rfl rfl (any_of HT_.out (by kernel_rfl)) (fun _ _ _ h => h) (Or.inl ⟨by rfl, ?_⟩) ?_ ?_
  rotate_left
  · intro w'
    go_simp
    with_reducible rfl
  rotate_left
  · simp only [Act.put, List.setIfInBounds_toArray, List.set_cons_zero, List.set_cons_succ, i64_w, i32_w]
    rfl
  refine pure_ (i := 25) (N := some 91) (v := ?_) (a' := ?_) #[true, true, true, true, true, true, true, true, true, true, true, true, true, true, true, true, true, true, true, true, true, true, true, true, true, true, false, false, false, false, false, false, false, false, false, false, false, false, false, false, false, false, false, false, false, false, false, false, false, false, false, false, false, false, false, false, false, false, false, false, false, false, false, false, false, false, false, false, false, false, false, false, false, false] rfl rfl (any_of HT_.out (by kernel_rfl)) (fun _ _ _ h => h) (Or.inl ⟨by rfl, ?_⟩) ?_ ?_
  rotate_left
  · intro w'
    go_simp
    with_reducible rfl
  rotate_left
  · simp only [Act.put, List.setIfInBounds_toArray, List.set_cons_zero, List.set_cons_succ, i64_w, i32_w]
    rfl
  refine pure_ (i := 26) (N := some 92) (v := ?_) (a' := ?_) #[true, true, true, true, true, true, true, true, true, true, true, true, true, true, true, true, true, true, true, true, true, true, true, true, true, true, true, false, false, false, false, false, false, false, false, false, false, false, false, false, false, false, false, false, false, false, false, false, false, false, false, false, false, false, false, false, false, false, false, false, false, false, false, false, false, false, false, false, false, false, false, false, false, false] rfl rfl (any_of HT_.out (by kernel_rfl)) (fun _ _ _ h => h) (Or.inl ⟨by rfl, ?_⟩) ?_ ?_
  rotate_left
  · intro w'
    go_simp
    with_reducible rfl
  rotate_left
  · simp only [Act.put, List.setIfInBounds_toArray, List.set_cons_zero, List.set_cons_succ, i64_w, i32_w]
    rfl
  refine pure_ (i := 27) (N := some 93) (v := ?_) (a' := ?_) #[true, true, true, true, true, true, true, true, true, true, true, true, true, true, true, true, true, true, true, true, true, true, true, true, true, true, true, true, false, false, false, false, false, false, false, false, false, false, false, false, false, false, false, false, false, false, false, false, false, false, false, false, false, false, false, false, false, false, false, false, false, false, false, false, false, false, false, false, false, false, false, false, false, false] rfl rfl (any_of HT_.out (by kernel_rfl)) (fun _ _ _ h => h) (Or.inl ⟨by rfl, ?_⟩) ?_ ?_
  rotate_left
  · intro w'
    go_simp
    with_reducible rfl
  rotate_left
  · simp only [Act.put, List.setIfInBounds_toArray, List.set_cons_zero, List.set_cons_succ, i64_w, i32_w]
    rfl
  refine pure_ (i := 29) (N := some 95) (v := ?_) (a' := ?_) #[true, true, true, true, true, true, true, true, true, true, true, true, true, true, true, true, true, true, true, true, true, true, true, true, true, true, true, true, false, true, false, false, false, false, false, false, false, false, false, false, false, false, false, false, false, false, false, false, false, false, false, false, false, false, false, false, false, false, false, false, false, false, false, false, false, false, false, false, false, false, false, false, false, false] rfl rfl (any_of HT_.out (by kernel_rfl)) (fun _ _ _ h => h) (Or.inl ⟨by rfl, ?_⟩) ?_ ?_
  rotate_left
  · intro w'
    go_simp
    with_reducible rfl
  rotate_left
  · simp only [Act.put, List.setIfInBounds_toArray, List.set_cons_zero, List.set_cons_succ, i64_w, i32_w]
    rfl
  refine pure_ (i := 30) (N := some 96) (v := ?_) (a' := ?_) #[true, true, true, true, true, true, true, true, true, true, true, true, true, true, true, true, true, true, true, true, true, true, true, true, true, true, true, true, false, true, true, false, false, false, false, false, false, false, false, false, false, false, false, false, false, false, false, false, false, false, false, false, false, false, false, false, false, false, false, false, false, false, false, false, false, false, false, false, false, false, false, false, false, false] rfl rfl (any_of HT_.out (by kernel_rfl)) (fun _ _ _ h => h) (Or.inl ⟨by rfl, ?_⟩) ?_ ?_
  rotate_left
  · intro w'
    go_simp
    with_reducible rfl
  rotate_left
  · simp only [Act.put, List.setIfInBounds_toArray, List.set_cons_zero, List.set_cons_succ, i64_w, i32_w]
    rfl
  refine take_ (i := 28) (N := some 94) (v := ?_) (a' := ?_) #[true, true, true, true, true, true, true, true, true, true, true, true, true, true, true, true, true, true, true, true, true, true, true, true, true, true, true, true, true, true, true, false, false, false, false, false, false, false, false, false, false, false, false, false, false, false, false, false, false, false, false, false, false, false, false, false, false, false, false, false, false, false, false, false, false, false, false, false, false, false, false, false, false, false] rfl rfl (take_ofW HT_.out HW_.out (by kernel_rfl)) (fun _ _ _ h => h) (Or.inl ⟨by rfl, ?_⟩) hHeld ?_ ?_
  rotate_left
  · rintro w' ⟨s0, s1, s2, s3, s4, s5, s6, s7, s8, s9, s10, s11⟩
    go_simp
    with_reducible rfl
  rotate_left
  · simp only [Act.put, List.setIfInBounds_toArray, List.set_cons_zero, List.set_cons_succ, i64_w, i32_w]
    rfl
  refine take_ (i := 31) (N := some 97) (v := ?_) (a' := ?_) #[true, true, true, true, true, true, true, true, true, true, true, true, true, true, true, true, true, true, true, true, true, true, true, true, true, true, true, true, true, true, true, true, false, false, false, false, false, false, false, false, false, false, false, false, false, false, false, false, false, false, false, false, false, false, false, false, false, false, false, false, false, false, false, false, false, false, false, false, false, false, false, false, false, false] rfl rfl (take_ofW HT_.out HW_.out (by kernel_rfl)) (fun _ _ _ h => h) (Or.inl ⟨by rfl, ?_⟩) hHeld ?_ ?_
  rotate_left
  · rintro w' ⟨s0, s1, s2, s3, s4, s5, s6, s7, s8, s9, s10, s11⟩
    go_simp
    with_reducible rfl
  rotate_left
  · simp only [Act.put, List.setIfInBounds_toArray, List.set_cons_zero, List.set_cons_succ, i64_w, i32_w]
    rfl
  refine pure_ (i := 32) (N := some 98) (v := ?_) (a' := ?_) #[true, true, true, true, true, true, true, true, true, true, true, true, true, true, true, true, true, true, true, true, true, true, true, true, true, true, true, true, true, true, true, true, true, false, false, false, false, false, false, false, false, false, false, false, false, false, false, false, false, false, false, false, false, false, false, false, false, false, false, false, false, false, false, false, false, false, false, false, false, false, false, false, false, false] rfl rfl (any_of HT_.out (by kernel_rfl)) (fun _ _ _ h => h) (Or.inl ⟨by rfl, ?_⟩) ?_ ?_
  rotate_left
  · intro w'
    go_simp
    with_reducible rfl
  rotate_left
  · simp only [Act.put, List.setIfInBounds_toArray, List.set_cons_zero, List.set_cons_succ, i64_w, i32_w]
    rfl
  refine pure_ (i := 33) (N := some 99) (v := ?_) (a' := ?_) #[true, true, true, true, true, true, true, true, true, true, true, true, true, true, true, true, true, true, true, true, true, true, true, true, true, true, true, true, true, true, true, true, true, true, false, false, false, false, false, false, false, false, false, false, false, false, false, false, false, false, false, false, false, false, false, false, false, false, false, false, false, false, false, false, false, false, false, false, false, false, false, false, false, false] rfl rfl (any_of HT_.out (by kernel_rfl)) (fun _ _ _ h => h) (Or.inl ⟨by rfl, ?_⟩) ?_ ?_
  rotate_left
  · intro w'
    go_simp
    with_reducible rfl
  rotate_left
  · simp only [Act.put, List.setIfInBounds_toArray, List.set_cons_zero, List.set_cons_succ, i64_w, i32_w]
    rfl
  refine pure_ (i := 34) (N := some 100) (v := ?_) (a' := ?_) #[true, true, true, true, true, true, true, true, true, true, true, true, true, true, true, true, true, true, true, true, true, true, true, true, true, true, true, true, true, true, true, true, true, true, true, false, false, false, false, false, false, false, false, false, false, false, false, false, false, false, false, false, false, false, false, false, false, false, false, false, false, false, false, false, false, false, false, false, false, false, false, false, false, false] rfl rfl (any_of HT_.out (by kernel_rfl)) (fun _ _ _ h => h) (Or.inl ⟨by rfl, ?_⟩) ?_ ?_
  rotate_left
  · intro w'
    go_simp
    with_reducible rfl
  rotate_left
  · simp only [Act.put, List.setIfInBounds_toArray, List.set_cons_zero, List.set_cons_succ, i64_w, i32_w]
    rfl
  refine pure_ (i := 35) (N := some 101) (v := ?_) (a' := ?_) #[true, true, true, true, true, true, true, true, true, true, true, true, true, true, true, true, true, true, true, true, true, true, true, true, true, true, true, true, true, true, true, true, true, true, true, true, false, false, false, false, false, false, false, false, false, false, false, false, false, false, false, false, false, false, false, false, false, false, false, false, false, false, false, false, false, false, false, false, false, false, false, false, false, false] rfl rfl (any_of HT_.out (by kernel_rfl)) (fun _ _ _ h => h) (Or.inl ⟨by rfl, ?_⟩) ?_ ?_
  rotate_left
  · intro w'
    go_simp
    with_reducible rfl
  rotate_left
  · simp only [Act.put, List.setIfInBounds_toArray, List.set_cons_zero, List.set_cons_succ, i64_w, i32_w]
    rfl
  refine pure_ (i := 36) (N := some 102) (v := ?_) (a' := ?_) #[true, true, true, true, true, true, true, true, true, true, true, true, true, true, true, true, true, true, true, true, true, true, true, true, true, true, true, true, true, true, true, true, true, true, true, true, true, false, false, false, false, false, false, false, false, false, false, false, false, false, false, false, false, false, false, false, false, false, false, false, false, false, false, false, false, false, false, false, false, false, false, false, false, false] rfl rfl (any_of HT_.out (by kernel_rfl)) (fun _ _ _ h => h) (Or.inl ⟨by rfl, ?_⟩) ?_ ?_
  rotate_left
  · intro w'
    go_simp
    with_reducible rfl
  rotate_left
  · simp only [Act.put, List.setIfInBounds_toArray, List.set_cons_zero, List.set_cons_succ, i64_w, i32_w]
    rfl
  refine pure_ (i := 37) (N := some 103) (v := ?_) (a' := ?_) #[true, true, true, true, true, true, true, true, true, true, true, true, true, true, true, true, true, true, true, true, true, true, true, true, true, true, true, true, true, true, true, true, true, true, true, true, true, true, false, false, false, false, false, false, false, false, false, false, false, false, false, false, false, false, false, false, false, false, false, false, false, false, false, false, false, false, false, false, false, false, false, false, false, false] rfl rfl (any_of HT_.out (by kernel_rfl)) (fun _ _ _ h => h) (Or.inl ⟨by rfl, ?_⟩) ?_ ?_
  rotate_left
  · intro w'
    go_simp
    with_reducible rfl
  rotate_left
  · simp only [Act.put, List.setIfInBounds_toArray, List.set_cons_zero, List.set_cons_succ, i64_w, i32_w]
    rfl
  refine pure_ (i := 38) (N := some 104) (v := ?_) (a' := ?_) #[true, true, true, true, true, true, true, true, true, true, true, true, true, true, true, true, true, true, true, true, true, true, true, true, true, true, true, true, true, true, true, true, true, true, true, true, true, true, true, false, false, false, false, false, false, false, false, false, false, false, false, false, false, false, false, false, false, false, false, false, false, false, false, false, false, false, false, false, false, false, false, false, false, false] rfl rfl (any_of HT_.out (by kernel_rfl)) (fun _ _ _ h => h) (Or.inl ⟨by rfl, ?_⟩) ?_ ?_
  rotate_left
  · intro w'
    go_simp
    with_reducible rfl
  rotate_left
  · simp only [Act.put, List.setIfInBounds_toArray, List.set_cons_zero, List.set_cons_succ, i64_w, i32_w]
    rfl
  refine pure_ (i := 39) (N := some 105) (v := ?_) (a' := ?_) #[true, true, true, true, true, true, true, true, true, true, true, true, true, true, true, true, true, true, true, true, true, true, true, true, true, true, true, true, true, true, true, true, true, true, true, true, true, true, true, true, false, false, false, false, false, false, false, false, false, false, false, false, false, false, false, false, false, false, false, false, false, false, false, false, false, false, false, false, false, false, false, false, false, false] rfl rfl (any_of HT_.out (by kernel_rfl)) (fun _ _ _ h => h) (Or.inl ⟨by rfl, ?_⟩) ?_ ?_
  rotate_left
  · intro w'
    go_simp
    with_reducible rfl
  rotate_left
  · simp only [Act.put, List.setIfInBounds_toArray, List.set_cons_zero, List.set_cons_succ, i64_w, i32_w]
    rfl
  refine pure_ (i := 40) (N := some 106) (v := ?_) (a' := ?_) #[true, true, true, true, true, true, true, true, true, true, true, true, true, true, true, true, true, true, true, true, true, true, true, true, true, true, true, true, true, true, true, true, true, true, true, true, true, true, true, true, true, false, false, false, false, false, false, false, false, false, false, false, false, false, false, false, false, false, false, false, false, false, false, false, false, false, false, false, false, false, false, false, false, false] rfl rfl (any_of HT_.out (by kernel_rfl)) (fun _ _ _ h => h) (Or.inl ⟨by rfl, ?_⟩) ?_ ?_
  rotate_left
  · intro w'
    go_simp
    with_reducible rfl
  rotate_left
  · simp only [Act.put, List.setIfInBounds_toArray, List.set_cons_zero, List.set_cons_succ, i64_w, i32_w]
    rfl
  refine pure_ (i := 41) (N := some 107) (v := ?_) (a' := ?_) #[true, true, true, true, true, true, true, true, true, true, true, true, true, true, true, true, true, true, true, true, true, true, true, true, true, true, true, true, true, true, true, true, true, true, true, true, true, true, true, true, true, true, false, false, false, false, false, false, false, false, false, false, false, false, false, false, false, false, false, false, false, false, false, false, false, false, false, false, false, false, false, false, false, false] rfl rfl (any_of HT_.out (by kernel_rfl)) (fun _ _ _ h => h) (Or.inl ⟨by rfl, ?_⟩) ?_ ?_
  rotate_left
  · intro w'
    go_simp
    with_reducible rfl
  rotate_left
  · simp only [Act.put, List.setIfInBounds_toArray, List.set_cons_zero, List.set_cons_succ, i64_w, i32_w]
    rfl
  refine pure_ (i := 42) (N := some 108) (v := ?_) (a' := ?_) #[true, true, true, true, true, true, true, true, true, true, true, true, true, true, true, true, true, true, true, true, true, true, true, true, true, true, true, true, true, true, true, true, true, true, true, true, true, true, true, true, true, true, true, false, false, false, false, false, false, false, false, false, false, false, false, false, false, false, false, false, false, false, false, false, false, false, false, false, false, false, false, false, false, false] rfl rfl (any_of HT_.out (by kernel_rfl)) (fun _ _ _ h => h) (Or.inl ⟨by rfl, ?_⟩) ?_ ?_
  rotate_left
  · intro w'
    go_simp
    with_reducible rfl
  rotate_left
  · simp only [Act.put, List.setIfInBounds_toArray, List.set_cons_zero, List.set_cons_succ, i64_w, i32_w]
    rfl
  refine pure_ (i := 43) (N := some 109) (v := ?_) (a' := ?_) #[true, true, true, true, true, true, true, true, true, true, true, true, true, true, true, true, true, true, true, true, true, true, true, true, true, true, true, true, true, true, true, true, true, true, true, true, true, true, true, true, true, true, true, true, false, false, false, false, false, false, false, false, false, false, false, false, false, false, false, false, false, false, false, false, false, false, false, false, false, false, false, false, false, false] rfl rfl (any_of HT_.out (by kernel_rfl)) (fun _ _ _ h => h) (Or.inl ⟨by rfl, ?_⟩) ?_ ?_
  rotate_left
  · intro w'
    go_simp
    with_reducible rfl
  rotate_left
  · simp only [Act.put, List.setIfInBounds_toArray, List.set_cons_zero, List.set_cons_succ, i64_w, i32_w]
    rfl
  refine pure_ (i := 44) (N := some 110) (v := ?_) (a' := ?_) #[true, true, true, true, true, true, true, true, true, true, true, true, true, true, true, true, true, true, true, true, true, true, true, true, true, true, true, true, true, true, true, true, true, true, true, true, true, true, true, true, true, true, true, true, true, false, false, false, false, false, false, false, false, false, false, false, false, false, false, false, false, false, false, false, false, false, false, false, false, false, false, false, false, false] rfl rfl (any_of HT_.out (by kernel_rfl)) (fun _ _ _ h => h) (Or.inl ⟨by rfl, ?_⟩) ?_ ?_
  rotate_left
  · intro w'
    go_simp
    with_reducible rfl
  rotate_left
  · simp only [Act.put, List.setIfInBounds_toArray, List.set_cons_zero, List.set_cons_succ, i64_w, i32_w]
    rfl
  refine pure_ (i := 45) (N := some 111) (v := ?_) (a' := ?_) #[true, true, true, true, true, true, true, true, true, true, true, true, true, true, true, true, true, true, true, true, true, true, true, true, true, true, true, true, true, true, true, true, true, true, true, true, true, true, true, true, true, true, true, true, true, true, false, false, false, false, false, false, false, false, false, false, false, false, false, false, false, false, false, false, false, false, false, false, false, false, false, false, false, false] rfl rfl (any_of HT_.out (by kernel_rfl)) (fun _ _ _ h => h) (Or.inl ⟨by rfl, ?_⟩) ?_ ?_
  rotate_left
  · intro w'
    go_simp
    with_reducible rfl
  rotate_left
  · simp only [Act.put, List.setIfInBounds_toArray, List.set_cons_zero, List.set_cons_succ, i64_w, i32_w]
    rfl
  refine pure_ (i := 46) (N := some 112) (v := ?_) (a' := ?_) #[true, true, true, true, true, true, true, true, true, true, true, true, true, true, true, true, true, true, true, true, true, true, true, true, true, true, true, true, true, true, true, true, true, true, true, true, true, true, true, true, true, true, true, true, true, true, true, false, false, false, false, false, false, false, false, false, false, false, false, false, false, false, false, false, false, false, false, false, false, false, false, false, false, false] rfl rfl (any_of HT_.out (by kernel_rfl)) (fun _ _ _ h => h) (Or.inl ⟨by rfl, ?_⟩) ?_ ?_
  rotate_left
  · intro w'
    go_simp
    with_reducible rfl
  rotate_left
  · simp only [Act.put, List.setIfInBounds_toArray, List.set_cons_zero, List.set_cons_succ, i64_w, i32_w]
    rfl
  refine pure_ (i := 47) (N := some 113) (v := ?_) (a' := ?_) #[true, true, true, true, true, true, true, true, true, true, true, true, true, true, true, true, true, true, true, true, true, true, true, true, true, true, true, true, true, true, true, true, true, true, true, true, true, true, true, true, true, true, true, true, true, true, true, true, false, false, false, false, false, false, false, false, false, false, false, false, false, false, false, false, false, false, false, false, false, false, false, false, false, false] rfl rfl (any_of HT_.out (by kernel_rfl)) (fun _ _ _ h => h) (Or.inl ⟨by rfl, ?_⟩) ?_ ?_
  rotate_left
  · intro w'
    go_simp
    with_reducible rfl
  rotate_left
  · simp only [Act.put, List.setIfInBounds_toArray, List.set_cons_zero, List.set_cons_succ, i64_w, i32_w]
    rfl
  refine pure_ (i := 48) (N := some 114) (v := ?_) (a' := ?_) #[true, true, true, true, true, true, true, true, true, true, true, true, true, true, true, true, true, true, true, true, true, true, true, true, true, true, true, true, true, true, true, true, true, true, true, true, true, true, true, true, true, true, true, true, true, true, true, true, true, false, false, false, false, false, false, false, false, false, false, false, false, false, false, false, false, false, false, false, false, false, false, false, false, false] rfl rfl (any_of HT_.out (by kernel_rfl)) (fun _ _ _ h => h) (Or.inl ⟨by rfl, ?_⟩) ?_ ?_
  rotate_left
  · intro w'
    go_simp
    with_reducible rfl
  rotate_left
  · simp only [Act.put, List.setIfInBounds_toArray, List.set_cons_zero, List.set_cons_succ, i64_w, i32_w]
    rfl
  refine pure_ (i := 49) (N := some 115) (v := ?_) (a' := ?_) #[true, true, true, true, true, true, true, true, true, true, true, true, true, true, true, true, true, true, true, true, true, true, true, true, true, true, true, true, true, true, true, true, true, true, true, true, true, true, true, true, true, true, true, true, true, true, true, true, true, true, false, false, false, false, false, false, false, false, false, false, false, false, false, false, false, false, false, false, false, false, false, false, false, false] rfl rfl (any_of HT_.out (by kernel_rfl)) (fun _ _ _ h => h) (Or.inl ⟨by rfl, ?_⟩) ?_ ?_
  rotate_left
  · intro w'
    go_simp
    with_reducible rfl
  rotate_left
  · simp only [Act.put, List.setIfInBounds_toArray, List.set_cons_zero, List.set_cons_succ, i64_w, i32_w]
    rfl
  refine pure_ (i := 50) (N := some 116) (v := ?_) (a' := ?_) #[true, true, true, true, true, true, true, true, true, true, true, true, true, true, true, true, true, true, true, true, true, true, true, true, true, true, true, true, true, true, true, true, true, true, true, true, true, true, true, true, true, true, true, true, true, true, true, true, true, true, true, false, false, false, false, false, false, false, false, false, false, false, false, false, false, false, false, false, false, false, false, false, false, false] rfl rfl (any_of HT_.out (by kernel_rfl)) (fun _ _ _ h => h) (Or.inl ⟨by rfl, ?_⟩) ?_ ?_
  rotate_left
  · intro w'
    go_simp
    with_reducible rfl
  rotate_left
  · simp only [Act.put, List.setIfInBounds_toArray, List.set_cons_zero, List.set_cons_succ, i64_w, i32_w]
    rfl
  refine pure_ (i := 51) (N := some 117) (v := ?_) (a' := ?_) #[true, true, true, true, true, true, true, true, true, true, true, true, true, true, true, true, true, true, true, true, true, true, true, true, true, true, true, true, true, true, true, true, true, true, true, true, true, true, true, true, true, true, true, true, true, true, true, true, true, true, true, true, false, false, false, false, false, false, false, false, false, false, false, false, false, false, false, false, false, false, false, false, false, false] rfl rfl (any_of HT_.out (by kernel_rfl)) (fun _ _ _ h => h) (Or.inl ⟨by rfl, ?_⟩) ?_ ?_
  rotate_left
  · intro w'
    go_simp
    with_reducible rfl
  rotate_left
  · simp only [Act.put, List.setIfInBounds_toArray, List.set_cons_zero, List.set_cons_succ, i64_w, i32_w]
    rfl
  refine pure_ (i := 52) (N := some 118) (v := ?_) (a' := ?_) #[true, true, true, true, true, true, true, true, true, true, true, true, true, true, true, true, true, true, true, true, true, true, true, true, true, true, true, true, true, true, true, true, true, true, true, true, true, true, true, true, true, true, true, true, true, true, true, true, true, true, true, true, true, false, false, false, false, false, false, false, false, false, false, false, false, false, false, false, false, false, false, false, false, false] rfl rfl (any_of HT_.out (by kernel_rfl)) (fun _ _ _ h => h) (Or.inl ⟨by rfl, ?_⟩) ?_ ?_
  rotate_left
  · intro w'
    go_simp
    with_reducible rfl
  rotate_left
  · simp only [Act.put, List.setIfInBounds_toArray, List.set_cons_zero, List.set_cons_succ, i64_w, i32_w]
    rfl
  refine pure_ (i := 53) (N := some 119) (v := ?_) (a' := ?_) #[true, true, true, true, true, true, true, true, true, true, true, true, true, true, true, true, true, true, true, true, true, true, true, true, true, true, true, true, true, true, true, true, true, true, true, true, true, true, true, true, true, true, true, true, true, true, true, true, true, true, true, true, true, true, false, false, false, false, false, false, false, false, false, false, false, false, false, false, false, false, false, false, false, false] rfl rfl (any_of HT_.out (by kernel_rfl)) (fun _ _ _ h => h) (Or.inl ⟨by rfl, ?_⟩) ?_ ?_
  rotate_left
  · intro w'
    go_simp
    with_reducible rfl
  rotate_left
  · simp only [Act.put, List.setIfInBounds_toArray, List.set_cons_zero, List.set_cons_succ, i64_w, i32_w]
    rfl
  refine pure_ (i := 54) (N := some 120) (v := ?_) (a' := ?_) #[true, true, true, true, true, true, true, true, true, true, true, true, true, true, true, true, true, true, true, true, true, true, true, true, true, true, true, true, true, true, true, true, true, true, true, true, true, true, true, true, true, true, true, true, true, true, true, true, true, true, true, true, true, true, true, false, false, false, false, false, false, false, false, false, false, false, false, false, false, false, false, false, false, false] rfl rfl (any_of HT_.out (by kernel_rfl)) (fun _ _ _ h => h) (Or.inl ⟨by rfl, ?_⟩) ?_ ?_
  rotate_left
  · intro w'
    go_simp
    with_reducible rfl
  rotate_left
  · simp only [Act.put, List.setIfInBounds_toArray, List.set_cons_zero, List.set_cons_succ, i64_w, i32_w]
    rfl
  refine pure_ (i := 55) (N := some 121) (v := ?_) (a' := ?_) #[true, true, true, true, true, true, true, true, true, true, true, true, true, true, true, true, true, true, true, true, true, true, true, true, true, true, true, true, true, true, true, true, true, true, true, true, true, true, true, true, true, true, true, true, true, true, true, true, true, true, true, true, true, true, true, true, false, false, false, false, false, false, false, false, false, false, false, false, false, false, false, false, false, false] rfl rfl (any_of HT_.out (by kernel_rfl)) (fun _ _ _ h => h) (Or.inl ⟨by rfl, ?_⟩) ?_ ?_
  rotate_left
  · intro w'
    go_simp
    with_reducible rfl
  rotate_left
  · simp only [Act.put, List.setIfInBounds_toArray, List.set_cons_zero, List.set_cons_succ, i64_w, i32_w]
    rfl
  refine pure_ (i := 56) (N := some 122) (v := ?_) (a' := ?_) #[true, true, true, true, true, true, true, true, true, true, true, true, true, true, true, true, true, true, true, true, true, true, true, true, true, true, true, true, true, true, true, true, true, true, true, true, true, true, true, true, true, true, true, true, true, true, true, true, true, true, true, true, true, true, true, true, true, false, false, false, false, false, false, false, false, false, false, false, false, false, false, false, false, false] rfl rfl (any_of HT_.out (by kernel_rfl)) (fun _ _ _ h => h) (Or.inl ⟨by rfl, ?_⟩) ?_ ?_
  rotate_left
  · intro w'
    go_simp
    with_reducible rfl
  rotate_left
  · simp only [Act.put, List.setIfInBounds_toArray, List.set_cons_zero, List.set_cons_succ, i64_w, i32_w]
    rfl
  refine pure_ (i := 57) (N := some 123) (v := ?_) (a' := ?_) #[true, true, true, true, true, true, true, true, true, true, true, true, true, true, true, true, true, true, true, true, true, true, true, true, true, true, true, true, true, true, true, true, true, true, true, true, true, true, true, true, true, true, true, true, true, true, true, true, true, true, true, true, true, true, true, true, true, true, false, false, false, false, false, false, false, false, false, false, false, false, false, false, false, false] rfl rfl (any_of HT_.out (by kernel_rfl)) (fun _ _ _ h => h) (Or.inl ⟨by rfl, ?_⟩) ?_ ?_
  rotate_left
  · intro w'
    go_simp
    with_reducible rfl
  rotate_left
  · simp only [Act.put, List.setIfInBounds_toArray, List.set_cons_zero, List.set_cons_succ, i64_w, i32_w]
    rfl
  refine pure_ (i := 58) (N := some 124) (v := ?_) (a' := ?_) #[true, true, true, true, true, true, true, true, true, true, true, true, true, true, true, true, true, true, true, true, true, true, true, true, true, true, true, true, true, true, true, true, true, true, true, true, true, true, true, true, true, true, true, true, true, true, true, true, true, true, true, true, true, true, true, true, true, true, true, false, false, false, false, false, false, false, false, false, false, false, false, false, false, false] rfl rfl (any_of HT_.out (by kernel_rfl)) (fun _ _ _ h => h) (Or.inl ⟨by rfl, ?_⟩) ?_ ?_
  rotate_left
  · intro w'
    go_simp
    with_reducible rfl
  rotate_left
  · simp only [Act.put, List.setIfInBounds_toArray, List.set_cons_zero, List.set_cons_succ, i64_w, i32_w]
    rfl
  refine pure_ (i := 59) (N := some 125) (v := ?_) (a' := ?_) #[true, true, true, true, true, true, true, true, true, true, true, true, true, true, true, true, true, true, true, true, true, true, true, true, true, true, true, true, true, true, true, true, true, true, true, true, true, true, true, true, true, true, true, true, true, true, true, true, true, true, true, true, true, true, true, true, true, true, true, true, false, false, false, false, false, false, false, false, false, false, false, false, false, false] rfl rfl (any_of HT_.out (by kernel_rfl)) (fun _ _ _ h => h) (Or.inl ⟨by rfl, ?_⟩) ?_ ?_
  rotate_left
  · intro w'
    go_simp
    with_reducible rfl
  rotate_left
  · simp only [Act.put, List.setIfInBounds_toArray, List.set_cons_zero, List.set_cons_succ, i64_w, i32_w]
    rfl
  refine pure_ (i := 60) (N := some 126) (v := ?_) (a' := ?_) #[true, true, true, true, true, true, true, true, true, true, true, true, true, true, true, true, true, true, true, true, true, true, true, true, true, true, true, true, true, true, true, true, true, true, true, true, true, true, true, true, true, true, true, true, true, true, true, true, true, true, true, true, true, true, true, true, true, true, true, true, true, false, false, false, false, false, false, false, false, false, false, false, false, false] rfl rfl (any_of HT_.out (by kernel_rfl)) (fun _ _ _ h => h) (Or.inl ⟨by rfl, ?_⟩) ?_ ?_
  rotate_left
  · intro w'
    go_simp
    with_reducible rfl
  rotate_left
  · simp only [Act.put, List.setIfInBounds_toArray, List.set_cons_zero, List.set_cons_succ, i64_w, i32_w]
    rfl
  refine pure_ (i := 61) (N := some 127) (v := ?_) (a' := ?_) #[true, true, true, true, true, true, true, true, true, true, true, true, true, true, true, true, true, true, true, true, true, true, true, true, true, true, true, true, true, true, true, true, true, true, true, true, true, true, true, true, true, true, true, true, true, true, true, true, true, true, true, true, true, true, true, true, true, true, true, true, true, true, false, false, false, false, false, false, false, false, false, false, false, false] rfl rfl (any_of HT_.out (by kernel_rfl)) (fun _ _ _ h => h) (Or.inl ⟨by rfl, ?_⟩) ?_ ?_
  rotate_left
  · intro w'
    go_simp
    with_reducible rfl
  rotate_left
  · simp only [Act.put, List.setIfInBounds_toArray, List.set_cons_zero, List.set_cons_succ, i64_w, i32_w]
    rfl
  refine pure_ (i := 62) (N := some 128) (v := ?_) (a' := ?_) #[true, true, true, true, true, true, true, true, true, true, true, true, true, true, true, true, true, true, true, true, true, true, true, true, true, true, true, true, true, true, true, true, true, true, true, true, true, true, true, true, true, true, true, true, true, true, true, true, true, true, true, true, true, true, true, true, true, true, true, true, true, true, true, false, false, false, false, false, false, false, false, false, false, false] rfl rfl (any_of HT_.out (by kernel_rfl)) (fun _ _ _ h => h) (Or.inl ⟨by rfl, ?_⟩) ?_ ?_
  rotate_left
  · intro w'
    go_simp
    with_reducible rfl
  rotate_left
  · simp only [Act.put, List.setIfInBounds_toArray, List.set_cons_zero, List.set_cons_succ, i64_w, i32_w]
    rfl
  refine pure_ (i := 63) (N := some 129) (v := ?_) (a' := ?_) #[true, true, true, true, true, true, true, true, true, true, true, true, true, true, true, true, true, true, true, true, true, true, true, true, true, true, true, true, true, true, true, true, true, true, true, true, true, true, true, true, true, true, true, true, true, true, true, true, true, true, true, true, true, true, true, true, true, true, true, true, true, true, true, true, false, false, false, false, false, false, false, false, false, false] rfl rfl (any_of HT_.out (by kernel_rfl)) (fun _ _ _ h => h) (Or.inl ⟨by rfl, ?_⟩) ?_ ?_
  rotate_left
  · intro w'
    go_simp
    with_reducible rfl
  rotate_left
  · simp only [Act.put, List.setIfInBounds_toArray, List.set_cons_zero, List.set_cons_succ, i64_w, i32_w]
    rfl
  refine pure_ (i := 64) (N := some 130) (v := ?_) (a' := ?_) #[true, true, true, true, true, true, true, true, true, true, true, true, true, true, true, true, true, true, true, true, true, true, true, true, true, true, true, true, true, true, true, true, true, true, true, true, true, true, true, true, true, true, true, true, true, true, true, true, true, true, true, true, true, true, true, true, true, true, true, true, true, true, true, true, true, false, false, false, false, false, false, false, false, false] rfl rfl (any_of HT_.out (by kernel_rfl)) (fun _ _ _ h => h) (Or.inl ⟨by rfl, ?_⟩) ?_ ?_
  rotate_left
  · intro w'
    go_simp
    with_reducible rfl
  rotate_left
  · simp only [Act.put, List.setIfInBounds_toArray, List.set_cons_zero, List.set_cons_succ, i64_w, i32_w]
    rfl
  refine one_ (i := 65) (N := some 131) #[true, true, true, true, true, true, true, true, true, true, true, true, true, true, true, true, true, true, true, true, true, true, true, true, true, true, true, true, true, true, true, true, true, true, true, true, true, true, true, true, true, true, true, true, true, true, true, true, true, true, true, true, true, true, true, true, true, true, true, true, true, true, true, true, true, true, false, false, false, false, false, false, false, false] rfl rfl (one_of HT_.out (by kernel_rfl)) (by decide) (fun K hK => ?_)
  refine goes_ Tryd.func10 (by kernel_rfl) rfl #[.slice A60 y247.length c60] (by rfl) rfl rfl (by (try simp only [List.map_toArray, List.map_cons, List.map_nil]); first | done | rfl | (simp only [List.length_drop, List.length_take]; rfl)) ?_
  with_reducible refine (pack_Encode.calls k _ _ y247 t251 _ ?side1 ?side2 ?side3 A36.out).mono ?_
  (case side1 => repeat (first | exact (by repeat (first | (with_reducible exact HR250.out) | (with_reducible refine Kd.C_alloc ?_ _) | (with_reducible refine Kd.C_drewN ?_ _) | (with_reducible refine Kd.C_drew ?_) | exact HR250.out)) | (with_reducible refine Kd.C_alloc ?_ _) | (with_reducible refine Kd.C_drewN ?_ _) | (with_reducible refine Kd.C_drew ?_)))
  (case side2 => exact HC250.out)
  (case side3 => exact TabW.below HTb.out (by repeat (first | (with_reducible first | exact HB.out | apply below_alloc | apply pw_below_drewN | apply below_drew1) | exact HB.out)))
  rintro e w61 ⟨rfl, hb⟩
  have HS0_ := (hb.cell (World.block_lt_of_cell? _ _ (hHeld.1))).trans (hHeld.1)
  have HS1_ := (hb.cell (World.block_lt_of_cell? _ _ (hHeld.2.1))).trans (hHeld.2.1)
  have HS2_ := (hb.cell (World.block_lt_of_cell? _ _ (hHeld.2.2.1))).trans (hHeld.2.2.1)
  have HS3_ := (hb.cell (World.block_lt_of_cell? _ _ (hHeld.2.2.2.1))).trans (hHeld.2.2.2.1)
  have HS4_ := (hb.cell (World.block_lt_of_cell? _ _ (hHeld.2.2.2.2.1))).trans (hHeld.2.2.2.2.1)
  have HS5_ := (hb.cell (World.block_lt_of_cell? _ _ (hHeld.2.2.2.2.2.1))).trans (hHeld.2.2.2.2.2.1)
  have HS6_ := (hb.cell (World.block_lt_of_cell? _ _ (hHeld.2.2.2.2.2.2.1))).trans (hHeld.2.2.2.2.2.2.1)
  have HS7_ := (hb.cell (World.block_lt_of_cell? _ _ (hHeld.2.2.2.2.2.2.2.1))).trans (hHeld.2.2.2.2.2.2.2.1)
  have HS8_ := (hb.cell (World.block_lt_of_cell? _ _ (hHeld.2.2.2.2.2.2.2.2.1))).trans (hHeld.2.2.2.2.2.2.2.2.1)
  have HS9_ := (hb.cell (World.block_lt_of_cell? _ _ (hHeld.2.2.2.2.2.2.2.2.2.1))).trans (hHeld.2.2.2.2.2.2.2.2.2.1)
  have HS10_ := (hb.cell (World.block_lt_of_cell? _ _ (hHeld.2.2.2.2.2.2.2.2.2.2.1))).trans (hHeld.2.2.2.2.2.2.2.2.2.2.1)
  have HS11_ := (hb.cell (World.block_lt_of_cell? _ _ (hHeld.2.2.2.2.2.2.2.2.2.2.2))).trans (hHeld.2.2.2.2.2.2.2.2.2.2.2)
  refine ⟨_, rfl, ?_⟩
  have n0_ := Aside0.mk (Kd.R_below (by (with_reducible repeat (first | apply Kd.R_alloc | apply Kd.R_drewN | apply Kd.R_drew)); exact HO201.out) hb)
  have n1_ := Aside0.mk (Kd.R_below (by (with_reducible repeat (first | apply Kd.R_alloc | apply Kd.R_drewN | apply Kd.R_drew)); exact HO206.out) hb)
  have n2_ := Aside0.mk (Kd.R_below (by (with_reducible repeat (first | apply Kd.R_alloc | apply Kd.R_drewN | apply Kd.R_drew)); exact HO210.out) hb)
  have n3_ := Aside0.mk (Kd.R_below (by (with_reducible repeat (first | apply Kd.R_alloc | apply Kd.R_drewN | apply Kd.R_drew)); exact HO214.out) hb)
  have n4_ := Aside0.mk (Kd.R_below (by (with_reducible repeat (first | apply Kd.R_alloc | apply Kd.R_drewN | apply Kd.R_drew)); exact HO219.out) hb)
  have n5_ := Aside0.mk (Kd.R_below (by (with_reducible repeat (first | apply Kd.R_alloc | apply Kd.R_drewN | apply Kd.R_drew)); exact HO224.out) hb)
  have n6_ := Aside0.mk (Kd.R_below (by (with_reducible repeat (first | apply Kd.R_alloc | apply Kd.R_drewN | apply Kd.R_drew)); exact HO229.out) hb)
  have n7_ := Aside0.mk (Kd.R_below (by (with_reducible repeat (first | apply Kd.R_alloc | apply Kd.R_drewN | apply Kd.R_drew)); exact HO234.out) hb)
  have n8_ := Aside0.mk (Kd.R_below (by (with_reducible repeat (first | apply Kd.R_alloc | apply Kd.R_drewN | apply Kd.R_drew)); exact HO239.out) hb)
  have n9_ := Aside0.mk (Kd.C_below (by repeat (first | (with_reducible exact HR250.out) | (with_reducible refine Kd.C_alloc ?_ _) | (with_reducible refine Kd.C_drewN ?_ _) | (with_reducible refine Kd.C_drew ?_) | exact HR250.out)) hb)
  have n10_ := Aside0.mk (below_step (by repeat (first | (with_reducible first | exact HB.out | apply below_alloc | apply pw_below_drewN | apply below_drew1) | exact HB.out)) hb)
  clear HO201
  clear HO206
  clear HO210
  clear HO214
  clear HO219
  clear HO224
  clear HO229
  clear HO234
  clear HO239
  clear HR250
  clear HB
  have HO201 := n0_
  have HO206 := n1_
  have HO210 := n2_
  have HO214 := n3_
  have HO219 := n4_
  have HO224 := n5_
  have HO229 := n6_
  have HO234 := n7_
  have HO239 := n8_
  have HR250 := n9_
  have HB := n10_
  clear n0_ n1_ n2_ n3_ n4_ n5_ n6_ n7_ n8_ n9_ n10_
  (try clear hb)
  (try clear hb2)
  (try clear hk)
  (try clear hi)
  refine hK.out _ _ ⟨HS0_, HS1_, HS2_, HS3_, HS4_, HS5_, HS6_, HS7_, HS8_, HS9_, HS10_, HS11_⟩ (fun hHeld => ?_)
  clear hK K
  refine norm_ (a' := ?_) ?_ ?_
  rotate_left
  · show Act.put _ (some 131) _ = _
    simp only [Act.put, List.setIfInBounds_toArray, List.set_cons_zero, List.set_cons_succ, i64_w, i32_w]
    rfl
  refine pure_ (i := 66) (N := some 132) (v := ?_) (a' := ?_) #[true, true, true, true, true, true, true, true, true, true, true, true, true, true, true, true, true, true, true, true, true, true, true, true, true, true, true, true, true, true, true, true, true, true, true, true, true, true, true, true, true, true, true, true, true, true, true, true, true, true, true, true, true, true, true, true, true, true, true, true, true, true, true, true, true, true, true, false, false, false, false, false, false, false] rfl rfl (any_of HT_.out (by kernel_rfl)) (fun _ _ _ h => h) (Or.inl ⟨by rfl, ?_⟩) ?_ ?_
  rotate_left
  · intro w'
    go_simp
    with_reducible rfl
  rotate_left
  · simp only [Act.put, List.setIfInBounds_toArray, List.set_cons_zero, List.set_cons_succ, i64_w, i32_w]
    rfl
  refine pure_ (i := 67) (N := some 133) (v := ?_) (a' := ?_) #[true, true, true, true, true, true, true, true, true, true, true, true, true, true, true, true, true, true, true, true, true, true, true, true, true, true, true, true, true, true, true, true, true, true, true, true, true, true, true, true, true, true, true, true, true, true, true, true, true, true, true, true, true, true, true, true, true, true, true, true, true, true, true, true, true, true, true, true, false, false, false, false, false, false] rfl rfl (any_of HT_.out (by kernel_rfl)) (fun _ _ _ h => h) (Or.inl ⟨by rfl, ?_⟩) ?_ ?_
  rotate_left
  · intro w'
    go_simp
    with_reducible rfl
  rotate_left
  · simp only [Act.put, List.setIfInBounds_toArray, List.set_cons_zero, List.set_cons_succ, i64_w, i32_w]
    rfl
  refine pure_ (i := 68) (N := some 134) (v := ?_) (a' := ?_) #[true, true, true, true, true, true, true, true, true, true, true, true, true, true, true, true, true, true, true, true, true, true, true, true, true, true, true, true, true, true, true, true, true, true, true, true, true, true, true, true, true, true, true, true, true, true, true, true, true, true, true, true, true, true, true, true, true, true, true, true, true, true, true, true, true, true, true, true, true, false, false, false, false, false] rfl rfl (any_of HT_.out (by kernel_rfl)) (fun _ _ _ h => h) (Or.inl ⟨by rfl, ?_⟩) ?_ ?_
  rotate_left
  · intro w'
    go_simp
    with_reducible rfl
  rotate_left
  · simp only [Act.put, List.setIfInBounds_toArray, List.set_cons_zero, List.set_cons_succ, i64_w, i32_w]
    rfl
  refine one_ (i := 69) (N := some 135) #[true, true, true, true, true, true, true, true, true, true, true, true, true, true, true, true, true, true, true, true, true, true, true, true, true, true, true, true, true, true, true, true, true, true, true, true, true, true, true, true, true, true, true, true, true, true, true, true, true, true, true, true, true, true, true, true, true, true, true, true, true, true, true, true, true, true, true, true, true, true, false, false, false, false] rfl rfl (one_of HT_.out (by kernel_rfl)) (by decide) (fun K hK => ?_)
  refine goes_ Tryd.func10 (by kernel_rfl) rfl #[.slice none 0 0] (by rfl) rfl rfl (by (try simp only [List.map_toArray, List.map_cons, List.map_nil]); first | done | rfl | (simp only [List.length_drop, List.length_take]; rfl)) ?_
  refine (pack_Encode.calls k _ _ ([] : List (S43)) t252 _ ?side1 ?side2 ?side3 A38.out).mono ?_
  (case side1 => exact Kd.C_nil _ _)
  (case side2 => exact Nat.le_refl _)
  (case side3 => exact TabW.below HTb.out (by repeat (first | (with_reducible first | exact HB.out | apply below_alloc | apply pw_below_drewN | apply below_drew1) | exact HB.out)))
  rintro e w62 ⟨rfl, hb⟩
  have HS0_ := (hb.cell (World.block_lt_of_cell? _ _ (hHeld.1))).trans (hHeld.1)
  have HS1_ := (hb.cell (World.block_lt_of_cell? _ _ (hHeld.2.1))).trans (hHeld.2.1)
  have HS2_ := (hb.cell (World.block_lt_of_cell? _ _ (hHeld.2.2.1))).trans (hHeld.2.2.1)
  have HS3_ := (hb.cell (World.block_lt_of_cell? _ _ (hHeld.2.2.2.1))).trans (hHeld.2.2.2.1)
  have HS4_ := (hb.cell (World.block_lt_of_cell? _ _ (hHeld.2.2.2.2.1))).trans (hHeld.2.2.2.2.1)
  have HS5_ := (hb.cell (World.block_lt_of_cell? _ _ (hHeld.2.2.2.2.2.1))).trans (hHeld.2.2.2.2.2.1)
  have HS6_ := (hb.cell (World.block_lt_of_cell? _ _ (hHeld.2.2.2.2.2.2.1))).trans (hHeld.2.2.2.2.2.2.1)
  have HS7_ := (hb.cell (World.block_lt_of_cell? _ _ (hHeld.2.2.2.2.2.2.2.1))).trans (hHeld.2.2.2.2.2.2.2.1)
  have HS8_ := (hb.cell (World.block_lt_of_cell? _ _ (hHeld.2.2.2.2.2.2.2.2.1))).trans (hHeld.2.2.2.2.2.2.2.2.1)
  have HS9_ := (hb.cell (World.block_lt_of_cell? _ _ (hHeld.2.2.2.2.2.2.2.2.2.1))).trans (hHeld.2.2.2.2.2.2.2.2.2.1)
  have HS10_ := (hb.cell (World.block_lt_of_cell? _ _ (hHeld.2.2.2.2.2.2.2.2.2.2.1))).trans (hHeld.2.2.2.2.2.2.2.2.2.2.1)
  have HS11_ := (hb.cell (World.block_lt_of_cell? _ _ (hHeld.2.2.2.2.2.2.2.2.2.2.2))).trans (hHeld.2.2.2.2.2.2.2.2.2.2.2)
  refine ⟨_, rfl, ?_⟩
  have n0_ := Aside0.mk (Kd.R_below (by (with_reducible repeat (first | apply Kd.R_alloc | apply Kd.R_drewN | apply Kd.R_drew)); exact HO201.out) hb)
  have n1_ := Aside0.mk (Kd.R_below (by (with_reducible repeat (first | apply Kd.R_alloc | apply Kd.R_drewN | apply Kd.R_drew)); exact HO206.out) hb)
  have n2_ := Aside0.mk (Kd.R_below (by (with_reducible repeat (first | apply Kd.R_alloc | apply Kd.R_drewN | apply Kd.R_drew)); exact HO210.out) hb)
  have n3_ := Aside0.mk (Kd.R_below (by (with_reducible repeat (first | apply Kd.R_alloc | apply Kd.R_drewN | apply Kd.R_drew)); exact HO214.out) hb)
  have n4_ := Aside0.mk (Kd.R_below (by (with_reducible repeat (first | apply Kd.R_alloc | apply Kd.R_drewN | apply Kd.R_drew)); exact HO219.out) hb)
  have n5_ := Aside0.mk (Kd.R_below (by (with_reducible repeat (first | apply Kd.R_alloc | apply Kd.R_drewN | apply Kd.R_drew)); exact HO224.out) hb)
  have n6_ := Aside0.mk (Kd.R_below (by (with_reducible repeat (first | apply Kd.R_alloc | apply Kd.R_drewN | apply Kd.R_drew)); exact HO229.out) hb)
  have n7_ := Aside0.mk (Kd.R_below (by (with_reducible repeat (first | apply Kd.R_alloc | apply Kd.R_drewN | apply Kd.R_drew)); exact HO234.out) hb)
  have n8_ := Aside0.mk (Kd.R_below (by (with_reducible repeat (first | apply Kd.R_alloc | apply Kd.R_drewN | apply Kd.R_drew)); exact HO239.out) hb)
  have n9_ := Aside0.mk (Kd.C_below (by repeat (first | (with_reducible exact HR250.out) | (with_reducible refine Kd.C_alloc ?_ _) | (with_reducible refine Kd.C_drewN ?_ _) | (with_reducible refine Kd.C_drew ?_) | exact HR250.out)) hb)
  have n10_ := Aside0.mk (below_step (by repeat (first | (with_reducible first | exact HB.out | apply below_alloc | apply pw_below_drewN | apply below_drew1) | exact HB.out)) hb)
  clear HO201
  clear HO206
  clear HO210
  clear HO214
  clear HO219
  clear HO224
  clear HO229
  clear HO234
  clear HO239
  clear HR250
  clear HB
  have HO201 := n0_
  have HO206 := n1_
  have HO210 := n2_
  have HO214 := n3_
  have HO219 := n4_
  have HO224 := n5_
  have HO229 := n6_
  have HO234 := n7_
  have HO239 := n8_
  have HR250 := n9_
  have HB := n10_
  clear n0_ n1_ n2_ n3_ n4_ n5_ n6_ n7_ n8_ n9_ n10_
  (try clear hb)
  (try clear hb2)
  (try clear hk)
  (try clear hi)
  refine hK.out _ _ ⟨HS0_, HS1_, HS2_, HS3_, HS4_, HS5_, HS6_, HS7_, HS8_, HS9_, HS10_, HS11_⟩ (fun hHeld => ?_)
  clear hK K
  refine norm_ (a' := ?_) ?_ ?_
  rotate_left
  · show Act.put _ (some 135) _ = _
    simp only [Act.put, List.setIfInBounds_toArray, List.set_cons_zero, List.set_cons_succ, i64_w, i32_w]
    rfl
  refine one_ (i := 70) (N := some 136) #[true, true, true, true, true, true, true, true, true, true, true, true, true, true, true, true, true, true, true, true, true, true, true, true, true, true, true, true, true, true, true, true, true, true, true, true, true, true, true, true, true, true, true, true, true, true, true, true, true, true, true, true, true, true, true, true, true, true, true, true, true, true, true, true, true, true, true, true, true, true, true, false, false, false] rfl rfl (one_of HT_.out (by kernel_rfl)) (by decide) (fun K hK => ?_)
  refine goes_ Tryd.func9 (by kernel_rfl) rfl #[.string (⟨#[67, 76, 69, 87, 0]⟩ : ByteArray)] (by rfl) rfl rfl (by (try simp only [List.map_toArray, List.map_cons, List.map_nil]); first | done | rfl | (simp only [List.length_drop, List.length_take]; rfl)) ?_
  with_reducible refine (crc_Seal.calls (⟨#[67, 76, 69, 87, 0]⟩ : ByteArray) t253 _ ?side1 A39.out).mono ?_
  (case side1 => exact TabW.below HTb.out (by repeat (first | (with_reducible first | exact HB.out | apply below_alloc | apply pw_below_drewN | apply below_drew1) | exact HB.out)))
  rintro e w63 ⟨rfl, hb⟩
  have HS0_ := (hb.cell (World.block_lt_of_cell? _ _ (hHeld.1))).trans (hHeld.1)
  have HS1_ := (hb.cell (World.block_lt_of_cell? _ _ (hHeld.2.1))).trans (hHeld.2.1)
  have HS2_ := (hb.cell (World.block_lt_of_cell? _ _ (hHeld.2.2.1))).trans (hHeld.2.2.1)
  have HS3_ := (hb.cell (World.block_lt_of_cell? _ _ (hHeld.2.2.2.1))).trans (hHeld.2.2.2.1)
  have HS4_ := (hb.cell (World.block_lt_of_cell? _ _ (hHeld.2.2.2.2.1))).trans (hHeld.2.2.2.2.1)
  have HS5_ := (hb.cell (World.block_lt_of_cell? _ _ (hHeld.2.2.2.2.2.1))).trans (hHeld.2.2.2.2.2.1)
  have HS6_ := (hb.cell (World.block_lt_of_cell? _ _ (hHeld.2.2.2.2.2.2.1))).trans (hHeld.2.2.2.2.2.2.1)
  have HS7_ := (hb.cell (World.block_lt_of_cell? _ _ (hHeld.2.2.2.2.2.2.2.1))).trans (hHeld.2.2.2.2.2.2.2.1)
  have HS8_ := (hb.cell (World.block_lt_of_cell? _ _ (hHeld.2.2.2.2.2.2.2.2.1))).trans (hHeld.2.2.2.2.2.2.2.2.1)
  have HS9_ := (hb.cell (World.block_lt_of_cell? _ _ (hHeld.2.2.2.2.2.2.2.2.2.1))).trans (hHeld.2.2.2.2.2.2.2.2.2.1)
  have HS10_ := (hb.cell (World.block_lt_of_cell? _ _ (hHeld.2.2.2.2.2.2.2.2.2.2.1))).trans (hHeld.2.2.2.2.2.2.2.2.2.2.1)
  have HS11_ := (hb.cell (World.block_lt_of_cell? _ _ (hHeld.2.2.2.2.2.2.2.2.2.2.2))).trans (hHeld.2.2.2.2.2.2.2.2.2.2.2)
  refine ⟨_, rfl, ?_⟩
  have n0_ := Aside0.mk (Kd.R_below (by (with_reducible repeat (first | apply Kd.R_alloc | apply Kd.R_drewN | apply Kd.R_drew)); exact HO201.out) hb)
  have n1_ := Aside0.mk (Kd.R_below (by (with_reducible repeat (first | apply Kd.R_alloc | apply Kd.R_drewN | apply Kd.R_drew)); exact HO206.out) hb)
  have n2_ := Aside0.mk (Kd.R_below (by (with_reducible repeat (first | apply Kd.R_alloc | apply Kd.R_drewN | apply Kd.R_drew)); exact HO210.out) hb)
  have n3_ := Aside0.mk (Kd.R_below (by (with_reducible repeat (first | apply Kd.R_alloc | apply Kd.R_drewN | apply Kd.R_drew)); exact HO214.out) hb)
  have n4_ := Aside0.mk (Kd.R_below (by (with_reducible repeat (first | apply Kd.R_alloc | apply Kd.R_drewN | apply Kd.R_drew)); exact HO219.out) hb)
  have n5_ := Aside0.mk (Kd.R_below (by (with_reducible repeat (first | apply Kd.R_alloc | apply Kd.R_drewN | apply Kd.R_drew)); exact HO224.out) hb)
  have n6_ := Aside0.mk (Kd.R_below (by (with_reducible repeat (first | apply Kd.R_alloc | apply Kd.R_drewN | apply Kd.R_drew)); exact HO229.out) hb)
  have n7_ := Aside0.mk (Kd.R_below (by (with_reducible repeat (first | apply Kd.R_alloc | apply Kd.R_drewN | apply Kd.R_drew)); exact HO234.out) hb)
  have n8_ := Aside0.mk (Kd.R_below (by (with_reducible repeat (first | apply Kd.R_alloc | apply Kd.R_drewN | apply Kd.R_drew)); exact HO239.out) hb)
  have n9_ := Aside0.mk (Kd.C_below (by repeat (first | (with_reducible exact HR250.out) | (with_reducible refine Kd.C_alloc ?_ _) | (with_reducible refine Kd.C_drewN ?_ _) | (with_reducible refine Kd.C_drew ?_) | exact HR250.out)) hb)
  have n10_ := Aside0.mk (below_step (by repeat (first | (with_reducible first | exact HB.out | apply below_alloc | apply pw_below_drewN | apply below_drew1) | exact HB.out)) hb)
  clear HO201
  clear HO206
  clear HO210
  clear HO214
  clear HO219
  clear HO224
  clear HO229
  clear HO234
  clear HO239
  clear HR250
  clear HB
  have HO201 := n0_
  have HO206 := n1_
  have HO210 := n2_
  have HO214 := n3_
  have HO219 := n4_
  have HO224 := n5_
  have HO229 := n6_
  have HO234 := n7_
  have HO239 := n8_
  have HR250 := n9_
  have HB := n10_
  clear n0_ n1_ n2_ n3_ n4_ n5_ n6_ n7_ n8_ n9_ n10_
  (try clear hb)
  (try clear hb2)
  (try clear hk)
  (try clear hi)
  refine hK.out _ _ ⟨HS0_, HS1_, HS2_, HS3_, HS4_, HS5_, HS6_, HS7_, HS8_, HS9_, HS10_, HS11_⟩ (fun hHeld => ?_)
  clear hK K
  refine norm_ (a' := ?_) ?_ ?_
  rotate_left
  · show Act.put _ (some 136) _ = _
    simp only [Act.put, List.setIfInBounds_toArray, List.set_cons_zero, List.set_cons_succ, i64_w, i32_w]
    rfl
  refine pure_ (i := 71) (N := some 137) (v := ?_) (a' := ?_) #[true, true, true, true, true, true, true, true, true, true, true, true, true, true, true, true, true, true, true, true, true, true, true, true, true, true, true, true, true, true, true, true, true, true, true, true, true, true, true, true, true, true, true, true, true, true, true, true, true, true, true, true, true, true, true, true, true, true, true, true, true, true, true, true, true, true, true, true, true, true, true, true, false, false] rfl rfl (any_of HT_.out (by kernel_rfl)) (fun _ _ _ h => h) (Or.inl ⟨by rfl, ?_⟩) ?_ ?_
  rotate_left
  · intro w'
    go_simp
    with_reducible rfl
  rotate_left
  · simp only [Act.put, List.setIfInBounds_toArray, List.set_cons_zero, List.set_cons_succ, i64_w, i32_w]
    rfl
  refine pure_ (i := 72) (N := some 138) (v := ?_) (a' := ?_) #[true, true, true, true, true, true, true, true, true, true, true, true, true, true, true, true, true, true, true, true, true, true, true, true, true, true, true, true, true, true, true, true, true, true, true, true, true, true, true, true, true, true, true, true, true, true, true, true, true, true, true, true, true, true, true, true, true, true, true, true, true, true, true, true, true, true, true, true, true, true, true, true, true, false] rfl rfl (any_of HT_.out (by kernel_rfl)) (fun _ _ _ h => h) (Or.inl ⟨by rfl, ?_⟩) ?_ ?_
  rotate_left
  · intro w'
    go_simp
    with_reducible rfl
  rotate_left
  · simp only [Act.put, List.setIfInBounds_toArray, List.set_cons_zero, List.set_cons_succ, i64_w, i32_w]
    rfl
  refine pure_ (i := 73) (N := some 0) (v := ?_) (a' := ?_) #[true, true, true, true, true, true, true, true, true, true, true, true, true, true, true, true, true, true, true, true, true, true, true, true, true, true, true, true, true, true, true, true, true, true, true, true, true, true, true, true, true, true, true, true, true, true, true, true, true, true, true, true, true, true, true, true, true, true, true, true, true, true, true, true, true, true, true, true, true, true, true, true, true, true] rfl rfl (any_of HT_.out (by kernel_rfl)) (fun _ _ _ h => h) (Or.inl ⟨by rfl, ?_⟩) ?_ ?_
  rotate_left
  · intro w'
    go_simp
    with_reducible rfl
  rotate_left
  · simp only [Act.put, List.setIfInBounds_toArray, List.set_cons_zero, List.set_cons_succ, i64_w, i32_w]
    rfl
  refine done_ (done_of HT_.out (by kernel_rfl)) ?_
  try go_wp2
  go_ret
  exact ⟨by first | rfl | (simp [errW_none, errW_some] <;> rfl) | (simp [*, errW_none, errW_some] <;> rfl), by repeat (first | (with_reducible first | exact HB.out | apply below_alloc | apply pw_below_drewN | apply below_drew1) | exact HB.out)⟩

end Go.Proofs.YtamalmopbncibaaDoor.PK
