/- Groups as text: how many commas; fewer begin more. Plain lists. -/
import Derived.Test.YtcgcoblecpbgbaaDoorCShow
namespace Go.Proofs.YtcgcoblecpbgbaaDoor.CP
open Go.RowKit Go.Proofs.YtcgcoblecpbgbaaDoorW.PrintWords Go.Proofs.YtcgcoblecpbgbaaDoorW.PrintLast Go.Proofs.YtcgcoblecpbgbaaDoorW.PrintMore
set_option linter.unusedVariables false
theorem join_snoc (sep x : List UInt8) (l : List (List UInt8)) : Lib.join (l ++ [x]) sep = if l = [] then x else Lib.join l sep ++ (sep ++ x) := by
  cases l with
  | nil => rw [if_pos rfl, List.nil_append, Lib.join_one]
  | cons a r =>
    rw [if_neg (by simp), List.cons_append, Lib.join_cons, Lib.join_cons]
    unfold Lib.joinTail
    rw [List.map_append, List.flatten_append]
    simp
theorem dec_free (u : Nat) : ∀ c ∈ Lib.decDigits u, c ≠ 44 := by
  induction u using Nat.strongRecOn with
  | _ u ih =>
    intro c hc
    have key : ∀ d : Fin 10, UInt8.ofNat (48 + d.1) ≠ 44 := by decide
    rw [Lib.decDigits] at hc
    by_cases h : u < 10
    · rw [dif_pos h] at hc
      rw [List.mem_singleton.1 hc]
      exact key ⟨u, h⟩
    · rw [dif_neg h] at hc
      rcases List.mem_append.1 hc with h1 | h1
      · exact ih (u / 10) (by omega) c h1
      · rw [List.mem_singleton.1 h1]
        exact key ⟨u % 10, Nat.mod_lt _ (by omega)⟩
theorem dec_ne (u : Nat) : Lib.decDigits u ≠ [] := by
  rw [Lib.decDigits]
  by_cases h : u < 10
  · rw [dif_pos h]; simp
  · rw [dif_neg h]; simp
theorem itoa_free (n : Int) : ∀ c ∈ Lib.itoa n, c ≠ 44 := by
  unfold Lib.itoa
  split
  · intro c hc
    rcases List.mem_cons.1 hc with h | h
    · rw [h]; decide
    · exact dec_free _ c h
  · exact dec_free _
theorem item_data (b : List Bool) (p : List Int) (g : Int) : (itemB b p g).data.toList = if (getB b p g).2.2 = true then Lib.itoa (getB b p g).1 ++ [45] ++ Lib.itoa (getB b p g).2.1 else [63] := by
  unfold itemB
  split
  · rw [ByteArray.data_append, ByteArray.data_append]
    simp [itoaS, dash]
  · rfl
theorem item_free (b : List Bool) (p : List Int) (g : Int) : (itemB b p g).data.toList.count 44 = 0 := by
  rw [item_data, List.count_eq_zero]
  intro h
  split at h
  · simp only [List.mem_append, List.mem_singleton] at h
    rcases h with (h | h) | h
    · exact itoa_free _ _ h rfl
    · exact absurd h (by decide)
    · exact itoa_free _ _ h rfl
  · exact absurd (List.mem_singleton.1 h) (by decide)
theorem item_ne (b : List Bool) (p : List Int) (g : Int) : (itemB b p g).data.toList ≠ [] := by
  rw [item_data]
  split <;> simp
def showL (b : List Bool) (p : List Int) (n : Nat) : List UInt8 := Lib.join ((itemsB b p n).map (·.data.toList)) comma.data.toList
theorem showL_succ (b : List Bool) (p : List Int) (n : Nat) : showL b p (n + 1) = if n = 0 then (itemB b p 1).data.toList else showL b p n ++ (44 :: (itemB b p ((n : Int) + 1)).data.toList) := by
  unfold showL
  rw [itemsB_succ, List.map_append, List.map_singleton, join_snoc]
  by_cases h : n = 0
  · subst h
    rfl
  · have hne : (itemsB b p n).map (·.data.toList) ≠ [] := by
      intro e
      have := congrArg List.length e
      simp [itemsB] at this
      exact h this
    rw [if_neg hne, if_neg h]
    rfl
theorem showL_count (b : List Bool) (p : List Int) : ∀ n, (showL b p n).count 44 = n - 1
  | 0 => rfl
  | n + 1 => by
    rw [showL_succ]
    split
    · next h => rw [h, item_free]
    · next h =>
      rw [List.count_append, showL_count b p n, List.count_cons, item_free]
      simp
      omega
theorem showL_ne (b : List Bool) (p : List Int) (n : Nat) : showL b p (n + 1) ≠ [] := by
  rw [showL_succ]
  split
  · exact item_ne b p 1
  · simp
theorem showL_begins (b : List Bool) (p : List Int) (n : Nat) : ∃ r, showL b p (n + 1) = showL b p n ++ r := by
  rw [showL_succ]
  split
  · next h => subst h; exact ⟨_, rfl⟩
  · exact ⟨_, rfl⟩
theorem item_len {b : List Bool} {p : List Int} (hw : Wf p) (g : Int) : (itemB b p g).data.toList.length ≤ 43 := by
  rw [item_data]
  obtain ⟨⟨f, t, i⟩, hG⟩ : ∃ x, getB b p g = x := ⟨_, rfl⟩
  have hr := get_range hw hG
  have h1 := Lib.itoa_length_le f hr.1.1 hr.1.2
  have h2 := Lib.itoa_length_le t hr.2.1 hr.2.2
  rw [hG]
  split
  · simp
    omega
  · simp
theorem showL_len {b : List Bool} {p : List Int} (hw : Wf p) : ∀ n, (showL b p n).length ≤ n * 44
  | 0 => Nat.le_refl _
  | n + 1 => by
    rw [showL_succ]
    split
    · have := item_len (b := b) hw 1
      omega
    · have := item_len (b := b) hw ((n : Int) + 1)
      have := showL_len (b := b) hw n
      rw [List.length_append, List.length_cons]
      omega
theorem showB_data (b : List Bool) (p : List Int) (n : Int) : (showB b p n).data.toList = showL b p (showN n) := by
  unfold showB joinS showL
  rfl
end Go.Proofs.YtcgcoblecpbgbaaDoor.CP
