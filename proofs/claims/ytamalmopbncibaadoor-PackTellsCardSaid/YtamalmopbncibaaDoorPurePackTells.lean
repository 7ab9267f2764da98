/- PackTells, over numbers and lists alone. -/
import Derived.Test.YtamalmopbncibaaDoorPureEncode
import Derived.Test.YtamalmopbncibaaDoorPureFixed
import Derived.Test.YtamalmopbncibaaDoorPKx10
namespace Go.Proofs.YtamalmopbncibaaDoor.Pure
open Go.RowKit Go.Proofs.YtamalmopbncibaaDoor.PK Go.Proofs.YtamalmopbncibaaDoorW.PrintWords Go.Proofs.YtamalmopbncibaaDoorW.PrintLast Go.Proofs.YtamalmopbncibaaDoorW.PrintMore
set_option linter.unusedVariables false
theorem fixed_ev : Ev (fun k => clewlaw16_fixed.f k) true := Ev.of clewlaw16_fixed.mono fixed_at
theorem mn_bounds (a : Nat) (c : Nat) : 0 ≤ mn (a : Int) (c : Int) ∧ mn (a : Int) (c : Int) ≤ (a : Int) ∧ mn (a : Int) (c : Int) ≤ (c : Int) := by
  unfold mn
  split <;> omega
theorem PackTells (l : List S43) (s : ByteArray) : ∃ k, clewlaw16_PackTells.f k l s = some true := by
  obtain ⟨a1, a2, a3⟩ := mn_bounds l.length 60
  obtain ⟨b1, b2, b3⟩ := mn_bounds s.size 300
  unfold clewlaw16_PackTells.f
  rw [show (60 : Int) = ((60 : Nat) : Int) from rfl, show (300 : Int) = ((300 : Nat) : Int) from rfl]
  generalize hy : l.take (mn (l.length : Int) ((60 : Nat) : Int)).toNat = y
  have hyl : y.length ≤ 60 := by rw [← hy, List.length_take]; omega
  generalize hx : s.extract 0 (mn (s.size : Int) ((300 : Nat) : Int)).toNat = x
  have hxl : x.size ≤ 300 := by rw [← hx, ByteArray.size_extract]; omega
  have hsl : (seal24 x).size ≤ 303 := by unfold seal24; rw [ByteArray.size_append, three_size]; omega
  have d1 := dec_len x
  have d2 := dec_len (seal24 x)
  obtain ⟨K1, h1⟩ := dec_ref x (by omega)
  obtain ⟨K2, h2⟩ := dec_ref (seal24 x) (by omega)
  obtain ⟨K3, h3⟩ := enc_ref y
  obtain ⟨K4, h4⟩ := fixed_ev
  replace h1 : ∀ k, K1 ≤ k → clewref16_Decode.f k x = _ := h1
  replace h2 : ∀ k, K2 ≤ k → clewref16_Decode.f k (seal24 x) = _ := h2
  replace h3 : ∀ k, K3 ≤ k → clewref16_Encode.f k (y.map conv) = _ := h3
  replace h4 : ∀ k, K4 ≤ k → clewlaw16_fixed.f k = _ := h4
  refine ⟨K1 + K2 + K3 + K4 + 20000000, ?_⟩
  generalize hk : K1 + K2 + K3 + K4 + 20000000 = k
  rw [if_pos a1, if_pos a2, Option.bind_some, if_pos b1, if_pos b2]
  rw [dec_eq x (by omega) k (by omega), Option.bind_some, h1 k (by omega), Option.bind_some, seal_eq x (by omega), Option.bind_some]
  rw [dec_eq (seal24 x) (by omega) k (by omega), Option.bind_some, h2 k (by omega), Option.bind_some]
  rw [enc_eq y k (by omega), Option.bind_some, ref_at y 60 (by omega) k (by omega), Option.bind_some, List.take_of_length_le hyl, h3 k (by omega), Option.bind_some, if_pos rfl]
  rw [show (1000 : Int) = ((1000 : Nat) : Int) from rfl, ref_at (decS x).1 1000 (by omega) k (by omega), Option.bind_some, List.take_of_length_le (by omega), same_at _ (by rw [List.length_map]; omega) k (by rw [List.length_map]; omega), Option.bind_some, if_pos rfl, if_pos rfl]
  rw [ref_at (decS (seal24 x)).1 1000 (by omega) k (by omega), Option.bind_some, List.take_of_length_le (by omega), same_at _ (by rw [List.length_map]; omega) k (by rw [List.length_map]; omega), Option.bind_some, if_pos rfl, if_pos rfl]
  rw [h4 k (by omega), Option.bind_some]
end Go.Proofs.YtamalmopbncibaaDoor.Pure
