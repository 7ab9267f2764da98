/- PackBack, over numbers and lists alone. -/
import Derived.Test.YtamalmopbncibaaDoorPureDecNil
import Derived.Test.YtamalmopbncibaaDoorPKx11
namespace Go.Proofs.YtamalmopbncibaaDoor.Pure
open Go.RowKit Go.Proofs.YtamalmopbncibaaDoor.PK Go.Proofs.YtamalmopbncibaaDoorW.PrintWords Go.Proofs.YtamalmopbncibaaDoorW.PrintLast Go.Proofs.YtamalmopbncibaaDoorW.PrintMore
set_option linter.unusedVariables false
theorem back_j0 (x : ByteArray) (hx : x.size ≤ 300) (K4 : Nat) (h4 : ∀ k, K4 ≤ k → clewlaw16_fixed.f k = some true) (k : Nat) (hk : K4 + 20000001 ≤ k) : clewlaw16_PackBack.j0 k x = some true := by
  obtain ⟨k', rfl⟩ : ∃ k', k = k' + 1 := ⟨k - 1, by omega⟩
  have hl := dec_len x
  rw [clewlaw16_PackBack.j0]
  rw [dec_eq x (by omega) k' (by omega), Option.bind_some]
  by_cases c : (decS x).2 = 0
  · obtain ⟨h1, h2⟩ := enc_dec (s := x) (y := (decS x).1) (by rw [← c])
    rw [if_pos c, right_at (decS x).1 k' (by omega), Option.bind_some, if_pos h1, enc_eq (decS x).1 k' (by omega), Option.bind_some, h2, if_pos rfl, h4 k' (by omega), Option.bind_some]
  · rw [if_neg c, dec_nil x c, if_pos (by rfl), h4 k' (by omega), Option.bind_some]
theorem PackBack (l : List S43) (s : ByteArray) : ∃ k, clewlaw16_PackBack.f k l s = some true := by
  obtain ⟨a1, a2, a3⟩ := mn_bounds l.length 60
  obtain ⟨b1, b2, b3⟩ := mn_bounds s.size 300
  unfold clewlaw16_PackBack.f
  rw [show (60 : Int) = ((60 : Nat) : Int) from rfl, show (300 : Int) = ((300 : Nat) : Int) from rfl]
  generalize hy : l.take (mn (l.length : Int) ((60 : Nat) : Int)).toNat = y
  have hyl : y.length ≤ 60 := by rw [← hy, List.length_take]; omega
  generalize hx : s.extract 0 (mn (s.size : Int) ((300 : Nat) : Int)).toNat = x
  have hxl : x.size ≤ 300 := by rw [← hx, ByteArray.size_extract]; omega
  obtain ⟨K4, h4⟩ := fixed_ev
  replace h4 : ∀ k, K4 ≤ k → clewlaw16_fixed.f k = some true := h4
  refine ⟨K4 + 20000001, ?_⟩
  have hj := back_j0 x hxl K4 h4 (K4 + 20000001) (Nat.le_refl _)
  generalize hk : K4 + 20000001 = k at hj
  rw [if_pos a1, if_pos a2, Option.bind_some, if_pos b1, if_pos b2]
  rw [enc_eq y k (by omega), Option.bind_some, right_at y k (by omega), Option.bind_some, hj]
  by_cases c : rightB y = true
  · have hne := enc_ne c
    have hz : (encS y).size ≤ 1099511627776 := by
      have h1 := enc_body_size y (by omega)
      have h2 := encL_size y (clew4 ++ wput y.length)
      have h3 := seal_size (body y)
      unfold body at h3
      rw [enc_body c]
      unfold body
      omega
    have hbne : ((encS y).toList != ([] : List UInt8)) = true := bne_iff_ne.mpr hne
    rw [hbne, c, if_neg (by decide), if_neg hne]
    rw [dec_eq (encS y) hz k (by omega), Option.bind_some, dec_enc c, if_pos rfl]
    rw [ref_at y 60 (by omega) k (by omega), Option.bind_some, Option.bind_some, same_at _ (by rw [List.length_map, List.length_take]; omega) k (by rw [List.length_map, List.length_take]; omega), Option.bind_some, if_pos rfl, if_pos rfl]
  · have hn := enc_none c
    have hbne : ((encS y).toList != ([] : List UInt8)) = false := bne_eq_false_iff_eq.mpr hn
    rw [hbne, Bool.eq_false_iff.mpr c, if_neg (by decide), if_pos hn]
end Go.Proofs.YtamalmopbncibaaDoor.Pure
