/- A certificate's bytes: the program's way and the document's come to the same. Plain numbers and lists. -/
import Derived.Test.YtamalmopbncibaaDoorPureDecode
import Derived.Test.YtamalmopbncibaaDoorHEncode
import Derived.Test.YtamalmopbncibaaDoorPKx7
import Derived.Test.YtamalmopbncibaaDoorPKx8
namespace Go.Proofs.YtamalmopbncibaaDoor.Pure
open Go.RowKit Go.Proofs.YtamalmopbncibaaDoor.PK Go.Proofs.YtamalmopbncibaaDoorW.PrintWords Go.Proofs.YtamalmopbncibaaDoorW.PrintLast Go.Proofs.YtamalmopbncibaaDoorW.PrintMore
set_option linter.unusedVariables false

theorem u64_mod (x : Int) : IntKind.u64.wrap x = x % 18446744073709551616 := by simp [IntKind.wrap, IntKind.bits, IntKind.signed]
/-- A token's number. -/
def tn (t : S43) : Nat := (tokNum t).toNat
theorem tn_nat (t : S43) : tokNum t = (tn t : Int) ∧ tn t < 18446744073709551616 := by
  unfold tn tokNum
  rw [u64_mod]
  omega
theorem wput_size (n : Nat) (h : n < 18446744073709551616) : (wput n).size ≤ 9 := by
  unfold wput
  rw [strOfNums_size, wlist_length]
  have := blen_le n 8 h
  split <;> omega
def encL : List S43 → ByteArray → ByteArray
  | [], b => b
  | t :: r, b => encL r (b ++ wput (tn t))
theorem encL_eq (k : Nat) (hk : 20 ≤ k) : ∀ (l : List S43) (b : ByteArray), b.size + 9 * l.length ≤ 1099511627776 → pack_Encode.l k l b = some (encL l b)
  | [], b, _ => rfl
  | t :: r, b, h => by
    obtain ⟨h1, h2⟩ := tn_nat t
    have h3 := wput_size (tn t) h2
    simp only [List.length_cons] at h
    unfold pack_Encode.l encL
    rw [h1, put_eq _ h2 k hk, Option.bind_some, if_pos (by omega)]
    exact encL_eq k hk r _ (by rw [ByteArray.size_append]; omega)
theorem encL_size : ∀ (l : List S43) (b : ByteArray), (encL l b).size ≤ b.size + 9 * l.length
  | [], b => by simp [encL]
  | t :: r, b => by
    have h3 := wput_size (tn t) (tn_nat t).2
    have := encL_size r (b ++ wput (tn t))
    rw [ByteArray.size_append] at this
    unfold encL
    simp only [List.length_cons]
    omega
/-- What Encode tells. -/
def encS (l : List S43) : ByteArray := if rightB l = true then seal24 (encL l (clew4 ++ wput l.length)) else ⟨#[]⟩
theorem right_len' {l : List S43} (h : rightB l = true) : l.length ≤ 1048576 := by
  unfold rightB at h
  simp at h
  exact h.1
theorem enc_body_size (l : List S43) (h : l.length ≤ 1048576) : (clew4 ++ wput l.length).size + 9 * l.length ≤ 10000000 := by
  have h3 := wput_size l.length (by omega)
  rw [ByteArray.size_append]
  have : clew4.size = 4 := rfl
  omega
theorem enc_eq (l : List S43) (k : Nat) (hk : 2 * l.length + 30 ≤ k) : pack_Encode.f k l = some (encS l) := by
  unfold pack_Encode.f encS
  rw [right_at l k (by omega), Option.bind_some]
  by_cases c : rightB l = true
  · have hl := right_len' c
    have hb := enc_body_size l hl
    have hs := encL_size l (clew4 ++ wput l.length)
    have h3 := wput_size l.length (by omega)
    rw [if_pos c, if_pos c, u64_id l.length (by omega), put_eq _ (by omega) k (by omega), Option.bind_some, if_pos (by omega), encL_eq k (by omega) l _ (by omega), Option.bind_some, seal_eq _ (by omega)]
  · rw [if_neg c, if_neg c]
theorem enc_ref_l0 (l : List S43) (hl : l.length ≤ 1048576) : ∀ (d i : Nat) (b : ByteArray), i + d = l.length → b.size + 9 * d ≤ 1099511627776 →
    ∀ K, (∀ k, K ≤ k → clewref03_Seal.f k (encL (l.drop i) b) = some (seal24 (encL (l.drop i) b))) → ∀ k, K + 30 + d ≤ k → clewref16_Encode.l0 k (l.map conv) b (i : Int) = some (seal24 (encL (l.drop i) b)) := by
  intro d
  induction d with
  | zero =>
    intro i b hi hb K hK k hk
    obtain ⟨k, rfl⟩ : ∃ m, k = m + 1 := ⟨k - 1, by omega⟩
    simp only [clewref16_Encode.l0]
    have hK2 := hK k (by omega)
    rw [List.drop_eq_nil_of_le (by omega)] at hK2 ⊢
    rw [if_neg (by simp; omega)]
    rw [show encL [] b = b from rfl] at hK2 ⊢
    rw [hK2, Option.bind_some]
  | succ d ih =>
    intro i b hi hb K hK k hk
    obtain ⟨k, rfl⟩ : ∃ m, k = m + 1 := ⟨k - 1, by omega⟩
    have hlt : i < l.length := by omega
    rw [List.drop_eq_getElem_cons hlt] at hK ⊢
    simp only [clewref16_Encode.l0]
    rw [if_pos (by simp; omega), if_pos (by omega), rd52_at hlt]
    generalize l[i] = t at hK ⊢
    obtain ⟨h1, h2⟩ := tn_nat t
    have h3 := wput_size (tn t) h2
    have h4 : IntKind.u64.wrap (wrap64 (wrap64 (6 * (conv t).f1) + (conv t).f0)) = (tn t : Int) := by
      rw [← h1]
      unfold tokNum conv
      rw [Int.mul_comm]
    rw [h4, put_ref_at _ h2 k (by omega), Option.bind_some, if_pos (by omega), show wrap64 ((i : Int) + 1) = ((i + 1 : Nat) : Int) by unfold wrap64; omega]
    exact ih (i + 1) _ (by omega) (by rw [ByteArray.size_append]; omega) K hK k (by omega)
theorem enc_ref (l : List S43) : Ev (fun k => clewref16_Encode.f k (l.map conv)) (encS l) := by
  unfold clewref16_Encode.f encS
  by_cases c : rightB l = true
  · have hl := right_len' c
    have hb := enc_body_size l hl
    have hs := encL_size l (clew4 ++ wput l.length)
    have h3 := wput_size l.length (by omega)
    obtain ⟨K, hK⟩ := seal_ref (encL l (clew4 ++ wput l.length)) (by omega)
    refine ⟨K + 6 * l.length + 100, fun k hk => ?_⟩
    show (clewref15_Right.f k (l.map conv)).bind _ = _
    rw [right_ref_at l k (by omega), Option.bind_some, if_pos c, if_pos c, List.length_map, u64_id l.length (by omega), put_ref_at _ (by omega) k (by omega), Option.bind_some, if_pos (by omega)]
    exact enc_ref_l0 l hl l.length 0 _ (by omega) (by omega) K hK k (by omega)
  · refine ⟨6 * l.length + 100, fun k hk => ?_⟩
    show (clewref15_Right.f k (l.map conv)).bind _ = _
    rw [right_ref_at l k (by omega), Option.bind_some, if_neg c, if_neg c]

/-! ## Tokens for the document; held against each other -/
theorem ref_l0' (l : List S43) (m : Nat) (hl : l.length ≤ 1099511627776) : ∀ (d i k : Nat), i + d = l.length → i ≤ m → d < k →
    clewlaw15_Ref.l0 k l (m : Int) ((l.take i).map conv) (i : Int) = some ((l.take m).map conv) := by
  intro d
  induction d with
  | zero =>
    intro i k hi him hk
    obtain ⟨k, rfl⟩ : ∃ m, k = m + 1 := ⟨k - 1, by omega⟩
    simp only [clewlaw15_Ref.l0]
    rw [if_neg (by omega), List.take_of_length_le (by omega : l.length ≤ i), List.take_of_length_le (by omega : l.length ≤ m)]
  | succ d ih =>
    intro i k hi him hk
    obtain ⟨k, rfl⟩ : ∃ m, k = m + 1 := ⟨k - 1, by omega⟩
    have hlt : i < l.length := by omega
    simp only [clewlaw15_Ref.l0]
    rw [if_pos (by omega)]
    by_cases c : i = m
    · subst c
      rw [if_neg (by omega)]
    · rw [if_pos (by omega), if_pos (by omega), if_pos (by simp; omega), rd_at hlt, show wrap64 ((i : Int) + 1) = ((i + 1 : Nat) : Int) by unfold wrap64; omega]
      have := ih (i + 1) k (by omega) (by omega) (by omega)
      rw [List.take_succ_eq_append_getElem hlt, List.map_append] at this
      exact this
theorem ref_at (l : List S43) (m : Nat) (hl : l.length ≤ 1099511627776) (k : Nat) (hk : l.length < k) : clewlaw15_Ref.f k l (m : Int) = some ((l.take m).map conv) := by
  have := ref_l0' l m hl l.length 0 k (by omega) (by omega) hk
  rw [List.take_zero] at this
  exact this
theorem same_l0 (l : List S52) (hl : l.length ≤ 1099511627776) : ∀ (d i k : Nat), i + d = l.length → d < k → clewref15_Same.l0 k l l (i : Int) = some true := by
  intro d
  induction d with
  | zero =>
    intro i k hi hk
    obtain ⟨k, rfl⟩ : ∃ m, k = m + 1 := ⟨k - 1, by omega⟩
    simp only [clewref15_Same.l0]
    rw [if_neg (by omega)]
  | succ d ih =>
    intro i k hi hk
    obtain ⟨k, rfl⟩ : ∃ m, k = m + 1 := ⟨k - 1, by omega⟩
    simp only [clewref15_Same.l0]
    rw [if_pos (by omega), if_pos (by omega), if_pos (by omega), if_neg (by simp), show wrap64 ((i : Int) + 1) = ((i + 1 : Nat) : Int) by unfold wrap64; omega]
    exact ih (i + 1) k (by omega) (by omega)
theorem same_at (l : List S52) (hl : l.length ≤ 1099511627776) (k : Nat) (hk : l.length < k) : clewref15_Same.f k l l = some true := by
  unfold clewref15_Same.f
  rw [if_pos rfl]
  exact same_l0 l hl l.length 0 k (by omega) hk
theorem toks_len (s : ByteArray) : ∀ (c a : Nat) (acc : List S43), a ≤ s.size → acc.length ≤ a → (toks s c a acc).1.length ≤ (toks s c a acc).2.1 := by
  intro c
  induction c with
  | zero => exact fun a acc h h2 => h2
  | succ c ih =>
    intro a acc h h2
    unfold toks
    by_cases c0 : (wget s a).2.2 = 0
    · rw [if_pos c0]
      obtain ⟨n, b, hw, hn, hab, hb⟩ := wget_ok s a c0
      rw [hw]
      by_cases c1 : (n : Int) > 4294967296
      · rw [if_pos c1]
        exact h2
      · rw [if_neg c1]
        exact ih b _ hb (by rw [List.length_append, List.length_singleton]; omega)
    · rw [if_neg c0]
      exact h2
theorem told_len (x : ByteArray) (r : List S43 × Nat × Int) (h : r.1.length ≤ x.size) : (told x r).1.length ≤ x.size := by
  unfold told
  split
  · split
    · exact h
    · exact Nat.zero_le _
  · exact Nat.zero_le _
theorem dec_len (s : ByteArray) : (decS s).1.length ≤ s.size := by
  have hx := open_size s
  unfold decS
  by_cases c0 : (open24 s).2 = 0
  · rw [if_pos c0]
    by_cases c1 : clewB (open24 s).1 = true
    · rw [if_pos c1]
      by_cases c2 : (wget (open24 s).1 4).2.2 = 0
      · rw [if_pos c2]
        obtain ⟨n, b, hw, hn, hab, hb⟩ := wget_ok (open24 s).1 4 c2
        rw [hw]
        by_cases c3 : (n : Int) > 1048576
        · rw [if_pos c3]
          exact Nat.zero_le _
        · rw [if_neg c3]
          have h1 := toks_len (open24 s).1 n b [] hb (Nat.zero_le _)
          have h2 := (toks_place (open24 s).1 n b [] hb).1
          exact Nat.le_trans (told_len _ _ (Nat.le_trans h1 h2)) hx
      · rw [if_neg c2]
        exact Nat.zero_le _
    · rw [if_neg c1]
      exact Nat.zero_le _
  · rw [if_neg c0]
    exact Nat.zero_le _
end Go.Proofs.YtamalmopbncibaaDoor.Pure
