/- PackLong, over numbers and lists alone. -/
import Derived.Test.YtamalmopbncibaaDoorPureDecNil
import Derived.Test.YtamalmopbncibaaDoorPKx14
namespace Go.Proofs.YtamalmopbncibaaDoor.Pure
open Go.RowKit Go.Proofs.YtamalmopbncibaaDoor.PK Go.Proofs.YtamalmopbncibaaDoorW.PrintWords Go.Proofs.YtamalmopbncibaaDoorW.PrintLast Go.Proofs.YtamalmopbncibaaDoorW.PrintMore
set_option linter.unusedVariables false
/-- The bytes of the tokens. -/
def sumS : List S43 → Nat
  | [] => 0
  | t :: r => (wput (tn t)).size + sumS r
theorem sumS_le : ∀ l : List S43, sumS l ≤ 9 * l.length
  | [] => Nat.le_refl _
  | t :: r => by
    have h3 := wput_size (tn t) (tn_nat t).2
    have := sumS_le r
    simp only [sumS, List.length_cons]
    omega
theorem encL_len : ∀ (l : List S43) (p : ByteArray), (encL l p).size = p.size + sumS l
  | [], p => rfl
  | t :: r, p => by
    rw [encL, encL_len r, ByteArray.size_append, sumS]
    omega
theorem sumS_append : ∀ (l m : List S43), sumS (l ++ m) = sumS l + sumS m
  | [], m => by simp [sumS]
  | t :: r, m => by
    simp only [List.cons_append, sumS]
    rw [sumS_append r m]
    omega
theorem enc_size {l : List S43} (h : rightB l = true) : (encS l).size = 4 + (wput l.length).size + sumS l + 3 := by
  rw [enc_body h, seal_size, body, encL_len, ByteArray.size_append]
  rfl
theorem size_at (n : Nat) (hn : n < 18446744073709551616) (k : Nat) (hk : 20 ≤ k) : wire_Size.f k (n : Int) = some ((wput n).size : Int) := by
  unfold wire_Size.f
  rw [put_eq n hn k hk, Option.bind_some]
/-- One token of kind try more. -/
theorem rspec_more : ∀ (l : List S43) (m : Int), rspec l m = true → rspec (l ++ [⟨1, 0⟩]) m = true
  | [], m, _ => by simp [rspec, nextB, fitsB]
  | t :: r, m, h => by
    simp only [rspec, Bool.and_eq_true] at h
    simp only [List.cons_append, rspec, Bool.and_eq_true]
    refine ⟨h.1, ?_, rspec_more r _ h.2.2⟩
    cases r with
    | nil =>
      have h4 := h.2.1
      simp only [nextB, bne_iff_ne] at h4
      simp only [List.nil_append, nextB, followsB]
      split
      · rfl
      · rfl
    | cons u r => exact h.2.1
theorem right_more {l : List S43} (h : rightB l = true) (hl : l.length ≤ 60) : rightB (l ++ [⟨1, 0⟩]) = true := by
  have h2 := (right_parts h).2
  unfold rightB at h ⊢
  simp only [Bool.and_eq_true, decide_eq_true_eq] at h ⊢
  refine ⟨by simp; omega, ?_, rspec_more l 0 h2⟩
  cases l with
  | nil => rfl
  | cons t r => exact h.2.1
theorem add_eq (l : List S43) (hl : l.length ≤ 60) : cert_Add.f l 1 0 = some (l ++ [⟨1, 0⟩]) := by
  unfold cert_Add.f
  rw [if_pos (by simp; omega), Option.bind_some]
  split
  · rw [if_neg (by decide), if_pos (by simp; omega)]
    simp
  · rw [if_pos (by simp; omega)]
    simp
theorem wput_one (n : Nat) (h : n < 192) : (wput n).size = 1 := by
  unfold wput
  rw [strOfNums_size, wlist_length, if_pos h]
theorem tn_try : tn ⟨1, 0⟩ = 1 := by
  have h := (tn_nat ⟨1, 0⟩).1
  unfold tokNum at h
  dsimp only at h
  rw [u64_mod] at h
  unfold wrap64 at h
  omega
theorem sumS_take (l : List S43) (i : Nat) (h : i < l.length) : sumS (l.take (i + 1)) = sumS (l.take i) + (wput (tn l[i])).size := by
  rw [List.take_succ_eq_append_getElem h, sumS_append]
  simp [sumS]
theorem long_l0 (l : List S43) (h : rightB l = true) (hl : l.length ≤ 60) (K4 : Nat) (h4 : ∀ k, K4 ≤ k → clewlaw16_fixed.f k = some true) : ∀ (d i k : Nat), i + d = l.length → K4 + 1000 + d ≤ k →
    clewlaw16_PackLong.l0 k l ((4 + (wput l.length).size + 3 + sumS (l.take i) : Nat) : Int) (i : Int) = some true := by
  have hw1 := wput_one l.length (by omega)
  have hm := right_more h hl
  have hml : (l ++ [(⟨1, 0⟩ : S43)]).length = l.length + 1 := by simp
  have hs := sumS_le l
  have hz := enc_size h
  have hz2 := enc_size hm
  rw [hml, wput_one (l.length + 1) (by omega), sumS_append, show sumS [(⟨1, 0⟩ : S43)] = 1 from by rw [sumS, tn_try, wput_one 1 (by omega)]; rfl] at hz2
  intro d
  induction d with
  | zero =>
    intro i k hi hk
    obtain ⟨k', rfl⟩ : ∃ k', k = k' + 1 := ⟨k - 1, by omega⟩
    rw [clewlaw16_PackLong.l0, if_neg (by omega), add_eq l hl, Option.bind_some, enc_eq l k' (by omega), Option.bind_some, List.take_of_length_le (by omega), if_pos (by omega), enc_eq _ k' (by omega), Option.bind_some, if_pos (by unfold wrap64; omega), h4 k' (by omega), Option.bind_some]
  | succ d ih =>
    intro i k hi hk
    obtain ⟨k', rfl⟩ : ∃ k', k = k' + 1 := ⟨k - 1, by omega⟩
    have hil : i < l.length := by omega
    obtain ⟨t1, t2⟩ := tn_nat l[i]
    unfold tokNum at t1
    rw [show l[i].f1 * 6 = 6 * l[i].f1 by omega] at t1
    have hst := sumS_take l i hil
    have hs2 := sumS_le (l.take i)
    have hwz := wput_size (tn l[i]) t2
    rw [List.length_take] at hs2
    rw [clewlaw16_PackLong.l0, if_pos (by omega), if_pos (by omega), rd_at hil, t1, size_at _ t2 k' (by omega), Option.bind_some]
    have := ih (i + 1) k' (by omega) (by omega)
    rw [hst] at this
    rw [← this]
    congr 1
    · unfold wrap64; omega
    · unfold wrap64; omega
theorem PackLong (l : List S43) : ∃ k, clewlaw16_PackLong.f k l = some true := by
  obtain ⟨a1, a2, a3⟩ := mn_bounds l.length 60
  unfold clewlaw16_PackLong.f
  rw [show (60 : Int) = ((60 : Nat) : Int) from rfl]
  generalize hy : l.take (mn (l.length : Int) ((60 : Nat) : Int)).toNat = y
  have hyl : y.length ≤ 60 := by rw [← hy, List.length_take]; omega
  obtain ⟨K4, h4⟩ := fixed_ev
  replace h4 : ∀ k, K4 ≤ k → clewlaw16_fixed.f k = some true := h4
  refine ⟨K4 + 1000 + 1000, ?_⟩
  generalize hk : K4 + 1000 + 1000 = k
  rw [if_pos a1, if_pos a2, Option.bind_some, right_at y k (by omega), Option.bind_some]
  by_cases c : rightB y = true
  · have hw1 := wput_one y.length (by omega)
    have := long_l0 y c hyl K4 h4 y.length 0 k (by omega) (by omega)
    rw [List.take_zero] at this
    rw [if_pos c, u64_mod, Int.emod_eq_of_lt (by omega) (by omega), size_at _ (by omega) k (by omega), Option.bind_some, ← this]
    congr 1
    rw [hw1]
    unfold wrap64 sumS
    omega
  · rw [if_neg c, enc_eq y k (by omega), Option.bind_some, if_pos (enc_none c), h4 k (by omega), Option.bind_some]
end Go.Proofs.YtamalmopbncibaaDoor.Pure
