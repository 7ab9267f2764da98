/- PackShort, over numbers and lists alone. -/
import Derived.Test.YtamalmopbncibaaDoorPureFlip
namespace Go.Proofs.YtamalmopbncibaaDoor.Pure
open Go.RowKit Go.Proofs.YtamalmopbncibaaDoor.PK Go.Proofs.YtamalmopbncibaaDoorW.PrintWords Go.Proofs.YtamalmopbncibaaDoorW.PrintLast Go.Proofs.YtamalmopbncibaaDoorW.PrintMore
set_option linter.unusedVariables false
theorem PackShort (l : List S43) (a1 a2 : Int) (h1 : 0 ≤ a1) (h1' : a1 < 65536) (h2 : 0 ≤ a2) (h2' : a2 < 256) : ∃ k, clewlaw16_PackShort.f k l a1 a2 = some true := by
  obtain ⟨b1, b2, b3⟩ := mn_bounds l.length 60
  unfold clewlaw16_PackShort.f
  rw [show (60 : Int) = ((60 : Nat) : Int) from rfl]
  generalize hy : l.take (mn (l.length : Int) ((60 : Nat) : Int)).toNat = y
  have hyl : y.length ≤ 60 := by rw [← hy, List.length_take]; omega
  obtain ⟨K4, h4⟩ := fixed_ev
  replace h4 : ∀ k, K4 ≤ k → clewlaw16_fixed.f k = some true := h4
  refine ⟨K4 + 20000000, ?_⟩
  generalize hk : K4 + 20000000 = k
  rw [if_pos b1, if_pos b2, Option.bind_some, enc_eq y k (by omega), Option.bind_some]
  by_cases c : rightB y = true
  · have hne := enc_ne c
    have hbz := seal_size (body y)
    have hz : (encS y).size = (body y).size + 3 := by rw [enc_body c, hbz]
    have hb4 : 4 ≤ (body y).size := by
      obtain ⟨x, hx⟩ := body_append y
      rw [hx, ByteArray.size_append]
      have : clew4.size = 4 := rfl
      omega
    have hbig : (body y).size ≤ 10000000 := by
      have h5 := enc_body_size y (by omega)
      have h6 := encL_size y (clew4 ++ wput y.length)
      unfold body
      omega
    obtain ⟨n, rfl⟩ := Int.eq_ofNat_of_zero_le h1
    have hw : wrap64 (n : Int) = (n : Int) := by unfold wrap64; omega
    have ht : Int.tmod (n : Int) ((encS y).size : Int) = ((n % (encS y).size : Nat) : Int) := by
      rw [Int.tmod_eq_emod_of_nonneg (by omega)]
      omega
    have hi : n % (encS y).size < (encS y).size := Nat.mod_lt _ (by omega)
    have hm : mn ((n % (encS y).size : Nat) : Int) (wrap64 (((encS y).size : Int) - 4)) = ((if (encS y).size - 4 < n % (encS y).size then (encS y).size - 4 else n % (encS y).size : Nat) : Int) := by
      rw [show wrap64 (((encS y).size : Int) - 4) = (((encS y).size - 4 : Nat) : Int) by unfold wrap64; omega]
      unfold mn
      split <;> split <;> omega
    have hml : (if (encS y).size - 4 < n % (encS y).size then (encS y).size - 4 else n % (encS y).size : Nat) < (body y).size := by split <;> omega
    rw [if_neg hne, if_neg (by omega), hw, ht, hm]
    generalize (if (encS y).size - 4 < n % (encS y).size then (encS y).size - 4 else n % (encS y).size : Nat) = m at hml
    generalize n % (encS y).size = i at hi
    rw [Int.toNat_natCast, Int.toNat_natCast]
    have hflip : decS (flipS (encS y) i a2) = ([], 8) := by
      have := dec_flip (body y) i (by rw [← enc_body c]; exact hi) a2 h2 h2'
      rw [← enc_body c] at this
      exact this
    have hfz : (flipS (encS y) i a2).size = (encS y).size := (flip_at (encS y) i hi a2 h2 h2').1
    have hcut := dec_cut c i hi
    have hseal := dec_cut_seal c m hml
    have hez : ((encS y).extract 0 m).size ≤ 10000000 := by rw [ByteArray.size_extract]; omega
    rw [dec_eq _ (by omega) k (by omega), Option.bind_some, hflip]
    rw [if_pos (by omega), if_pos (by omega), if_pos (by omega), if_pos (by omega)]
    rw [seal_eq _ (by omega), Option.bind_some, dec_eq ((encS y).extract 0 i) (by rw [ByteArray.size_extract]; omega) k (by omega), Option.bind_some]
    rw [dec_eq (seal24 ((encS y).extract 0 m)) (by rw [seal_size]; omega) k (by omega), Option.bind_some]
    rw [if_pos (by rfl), if_pos (by rfl), if_neg hcut, if_neg hseal, h4 k (by omega), Option.bind_some]
  · have hn := enc_none c
    rw [if_pos hn, right_at y k (by omega), Option.bind_some, if_neg c, h4 k (by omega), Option.bind_some]
end Go.Proofs.YtamalmopbncibaaDoor.Pure
