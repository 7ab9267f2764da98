/- Whether tokens may be: the program's way and the document's come to the same. Plain numbers and lists. -/
import Derived.Test.YtamalmopbncibaaDoorPKx3
import Derived.Test.YtamalmopbncibaaDoorPKx6
namespace Go.Proofs.YtamalmopbncibaaDoor.Pure
open Go.RowKit Go.Proofs.YtamalmopbncibaaDoor.PK Go.Proofs.YtamalmopbncibaaDoorW.PrintWords Go.Proofs.YtamalmopbncibaaDoorW.PrintLast Go.Proofs.YtamalmopbncibaaDoorW.PrintMore
set_option linter.unusedVariables false

def fitsB (a b m : Int) : Bool := if a = 0 then decide (1 ≤ b ∧ b ≤ 10001) else if a = 5 then decide (0 ≤ b ∧ b < m) else if 0 < a ∧ a < 6 then b == 0 else false
def followsB (a c : Int) : Bool := if a = 0 then c == 1 else if a = 4 then (c == 2 || c == 3) else true
def nextB (a : Int) : List S43 → Bool
  | [] => a != 4
  | u :: _ => followsB a u.f0
def rspec : List S43 → Int → Bool
  | [], _ => true
  | t :: r, m => fitsB t.f0 t.f1 m && (nextB t.f0 r && rspec r (if t.f0 = 4 then m + 1 else m))
def headB : List S43 → Bool
  | [] => true
  | t :: _ => decide (t.f0 ≤ 1)
def rightB (l : List S43) : Bool := decide (l.length ≤ 1048576) && (headB l && rspec l 0)

theorem skips_eq (b : Int) : cert_skips.f b = some (decide (1 ≤ b ∧ b ≤ 10001)) := by
  unfold cert_skips.f
  by_cases c : b ≥ 1
  · rw [if_pos c]
    congr 1
    simp
    intro _
    omega
  · rw [if_neg c]
    congr 1
    simp
    omega
theorem fits_eq (a b m : Int) : cert_Token_fits.f a b m = some (fitsB a b m) := by
  unfold cert_Token_fits.f fitsB
  by_cases c : a = 0
  · rw [if_pos c, if_pos c, skips_eq]
    rfl
  · rw [if_neg c, if_neg c]
    by_cases c5 : a = 5
    · rw [if_pos c5, if_pos c5]
      by_cases c0 : b ≥ 0
      · rw [if_pos c0]
        congr 1
        simp
        omega
      · rw [if_neg c0]
        congr 1
        simp
        omega
    · rw [if_neg c5, if_neg c5]
      by_cases c1 : a > 0
      · rw [if_pos c1]
        by_cases c6 : a < 6
        · rw [if_pos c6, if_pos ⟨c1, c6⟩]
        · rw [if_neg c6, if_neg (by omega)]
      · rw [if_neg c1, if_neg (by omega)]
theorem follows_eq (a b c d : Int) : cert_follows.f a b c d = some (followsB a c) := by
  unfold cert_follows.f followsB
  by_cases h : a = 0
  · rw [if_pos h, if_pos h]
  · rw [if_neg h, if_neg h]
    by_cases h4 : a = 4
    · rw [if_pos h4, if_pos h4]
      by_cases h2 : c = 2
      · rw [if_pos h2]
        simp [h2]
      · rw [if_neg h2]
        congr 1
        simp [h2]
    · rw [if_neg h4, if_neg h4]
theorem rd_at {l : List S43} {i : Nat} (h : i < l.length) : rd_T43 l (i : Int) = l[i] := by
  unfold rd_T43
  rw [Int.toNat_natCast, List.getD_eq_getElem?_getD, List.getElem?_eq_getElem h]
  rfl

theorem right_j1 (k : Nat) (l : List S43) (m : Int) (i : Nat) (b : Bool) (x y : Int) (hi : i ≤ 1048576) (hm : 0 ≤ m) (hm2 : m ≤ 1048576) :
    cert_Right.j1 (k + 1) l m l (l.length : Int) (i : Int) b x y = if b = true then some false else cert_Right.l0 k l (if x = 4 then m + 1 else m) l (l.length : Int) ((i + 1 : Nat) : Int) x y := by
  simp only [cert_Right.j1]
  by_cases c : b = true
  · rw [if_pos c, if_pos c]
  · rw [if_neg c, if_neg c, show wrap64 ((i : Int) + 1) = ((i + 1 : Nat) : Int) by unfold wrap64; omega, show wrap64 (m + 1) = m + 1 by unfold wrap64; omega]
    by_cases c4 : x = 4
    · rw [if_pos c4, if_pos c4]
    · rw [if_neg c4, if_neg c4]

theorem right_loop (l : List S43) (hl : l.length ≤ 1048576) : ∀ (d i k : Nat) (m x y : Int), i + d = l.length → 1 ≤ i → 0 ≤ m → m ≤ i → 2 * d < k →
    cert_Right.l0 k l m l (l.length : Int) (i : Int) x y = some (nextB x (l.drop i) && rspec (l.drop i) m) := by
  intro d
  induction d with
  | zero =>
    intro i k m x y hi h1 h0 hm hk
    obtain ⟨k, rfl⟩ : ∃ m, k = m + 1 := ⟨k - 1, by omega⟩
    simp only [cert_Right.l0]
    rw [if_neg (by omega), if_neg (by omega), List.drop_eq_nil_of_le (by omega)]
    simp [nextB, rspec]
  | succ d ih =>
    intro i k m x y hi h1 h0 hm hk
    obtain ⟨k, rfl⟩ : ∃ m, k = m + 2 := ⟨k - 2, by omega⟩
    have hlt : i < l.length := by omega
    simp only [cert_Right.l0]
    rw [if_pos (by omega), if_pos (by omega), if_pos (by omega), rd_at hlt, fits_eq, Option.bind_some]
    rw [if_neg (show ¬ ((i : Int) = 0) by omega), if_pos (show (i : Int) > 0 by omega), follows_eq, Option.bind_some]
    rw [right_j1 k l m i _ _ _ (by omega) h0 (by omega)]
    rw [List.drop_eq_getElem_cons hlt]
    generalize l[i] = t
    rw [ih (i + 1) k (if t.f0 = 4 then m + 1 else m) t.f0 t.f1 (by omega) (by omega) (by split <;> omega) (by split <;> omega) (by omega)]
    simp only [nextB, rspec]
    cases fitsB t.f0 t.f1 m <;> cases followsB x t.f0 <;> simp
theorem right_at (l : List S43) (k : Nat) (hk : 2 * l.length + 10 ≤ k) : cert_Right.f k l = some (rightB l) := by
  unfold cert_Right.f rightB
  by_cases c : (l.length : Int) > 1048576
  · rw [if_pos c]
    simp
    omega
  · rw [if_neg c]
    obtain ⟨k, rfl⟩ : ∃ m, k = m + 2 := ⟨k - 2, by omega⟩
    simp only [cert_Right.l0]
    cases l with
    | nil => simp [headB, rspec]
    | cons t r =>
      have hlt : 0 < (t :: r).length := by simp
      have hrd : rd_T43 (t :: r) 0 = t := rfl
      rw [if_pos (by omega), if_pos (by omega), if_pos (by omega), hrd, fits_eq, Option.bind_some]
      have hj : ∀ b, cert_Right.j1 (k + 1) (t :: r) 0 (t :: r) ((t :: r).length : Int) 0 b t.f0 t.f1 = if b = true then some false else cert_Right.l0 k (t :: r) (if t.f0 = 4 then 0 + 1 else 0) (t :: r) ((t :: r).length : Int) ((1 : Nat) : Int) t.f0 t.f1 :=
        fun b => right_j1 k (t :: r) 0 0 b t.f0 t.f1 (by omega) (by omega) (by omega)
      have hlp := right_loop (t :: r) (by omega) r.length 1 k (if t.f0 = 4 then 0 + 1 else 0) t.f0 t.f1 (by simp; omega) (by omega) (by split <;> omega) (by split <;> omega) (by simp at hk; omega)
      have h1 : decide ((t :: r).length ≤ 1048576) = true := by simp at c ⊢; omega
      rw [if_neg (show ¬ ((0 : Int) > 0) by omega), hj, hj, h1]
      by_cases c1 : t.f0 > 1
      · have h2 : headB (t :: r) = false := by simp [headB]; omega
        rw [if_pos c1, h2]
        simp
      · have h2 : headB (t :: r) = true := by simp [headB]; omega
        rw [if_neg c1, if_neg (show ¬ (false = true) by simp), hlp, h2]
        simp only [rspec, List.drop_succ_cons, List.drop_zero]
        cases fitsB t.f0 t.f1 0 <;> simp
/-! ## The document's way -/
def conv (t : S43) : S52 := ⟨t.f0, t.f1⟩
theorem rd52_at {l : List S43} {i : Nat} (h : i < l.length) : rd_T52 (l.map conv) (i : Int) = conv l[i] := by
  unfold rd_T52
  rw [Int.toNat_natCast, List.getD_eq_getElem?_getD, List.getElem?_map, List.getElem?_eq_getElem h]
  rfl
theorem skips_ref (b : Int) : clewref15_skips.f b = some (decide (1 ≤ b ∧ b ≤ 10001)) := skips_eq b
theorem fits_chain (a b m : Int) (J : Bool → Option Bool) :
    (if a < 0 then J true else if a > 5 then J true else if a = 0 then (clewref15_skips.f b).bind fun t => (if t = true then (if a = 5 then (if b < 0 then J true else if b ≥ m then J true else if a > 0 then (if a < 5 then J (b != 0) else J false) else J false) else if a > 0 then (if a < 5 then J (b != 0) else J false) else J false) else J true)
      else if a = 5 then (if b < 0 then J true else if b ≥ m then J true else if a > 0 then (if a < 5 then J (b != 0) else J false) else J false) else if a > 0 then (if a < 5 then J (b != 0) else J false) else J false) = J (!fitsB a b m) := by
  by_cases c0 : a < 0
  · rw [if_pos c0, show fitsB a b m = false by unfold fitsB; rw [if_neg (by omega), if_neg (by omega), if_neg (by omega)]]
    rfl
  · rw [if_neg c0]
    by_cases c5 : a > 5
    · rw [if_pos c5, show fitsB a b m = false by unfold fitsB; rw [if_neg (by omega), if_neg (by omega), if_neg (by omega)]]
      rfl
    · rw [if_neg c5]
      by_cases cz : a = 0
      · rw [if_pos cz, skips_ref, Option.bind_some]
        by_cases cs : 1 ≤ b ∧ b ≤ 10001
        · rw [if_pos (by simpa using cs), if_neg (by omega), if_neg (by omega), show fitsB a b m = true by unfold fitsB; rw [if_pos cz]; simpa using cs]
          rfl
        · rw [if_neg (by simpa using cs), show fitsB a b m = false by unfold fitsB; rw [if_pos cz]; simpa using cs]
          rfl
      · rw [if_neg cz]
        by_cases ce : a = 5
        · rw [if_pos ce]
          by_cases cb : b < 0
          · rw [if_pos cb, show fitsB a b m = false by unfold fitsB; rw [if_neg cz, if_pos ce]; simp; omega]
            rfl
          · rw [if_neg cb]
            by_cases cm : b ≥ m
            · rw [if_pos cm, show fitsB a b m = false by unfold fitsB; rw [if_neg cz, if_pos ce]; simp; omega]
              rfl
            · rw [if_neg cm, if_pos (by omega), if_neg (by omega), show fitsB a b m = true by unfold fitsB; rw [if_neg cz, if_pos ce]; simp; omega]
              rfl
        · rw [if_neg ce, if_pos (by omega), if_pos (by omega), show fitsB a b m = (b == 0) by unfold fitsB; rw [if_neg cz, if_neg ce, if_pos (by omega)]]
          rfl
theorem ref_l0 (k : Nat) (l : List S43) (m : Int) (i : Nat) (h : i < l.length) :
    clewref15_Right.l0 (k + 1) (l.map conv) m (i : Int) = clewref15_Right.j1 k (l.map conv) m (i : Int) (!fitsB l[i].f0 l[i].f1 m) l[i].f0 l[i].f1 := by
  simp only [clewref15_Right.l0]
  rw [if_pos (by simp; omega), if_pos (by omega), rd52_at h]
  exact fits_chain l[i].f0 l[i].f1 m (fun x => clewref15_Right.j1 k (l.map conv) m (i : Int) x l[i].f0 l[i].f1)
theorem ref_j (k : Nat) (l : List S43) (m : Int) (i : Nat) (bad : Bool) (h : i < l.length) (hl : l.length ≤ 1048576) (hm : 0 ≤ m) (hm2 : m ≤ i) (a b : Int) :
    clewref15_Right.j1 (k + 4) (l.map conv) m (i : Int) bad a b = if bad = true ∨ (i = 0 ∧ a > 1) ∨ nextB a (l.drop (i + 1)) = false then some false else clewref15_Right.l0 k (l.map conv) (if a = 4 then m + 1 else m) ((i + 1 : Nat) : Int) := by
  simp only [clewref15_Right.j1]
  by_cases cb : bad = true
  · rw [if_pos cb, if_pos (.inl cb)]
  rw [if_neg cb]
  have ew : wrap64 ((i : Int) + 1) = ((i + 1 : Nat) : Int) := by unfold wrap64; omega
  have em : wrap64 (m + 1) = m + 1 := by unfold wrap64; omega
  have j4 : ∀ x : Bool, clewref15_Right.j4 (k + 1) (l.map conv) m (i : Int) x a b = if x = true then some false else clewref15_Right.l0 k (l.map conv) (if a = 4 then m + 1 else m) ((i + 1 : Nat) : Int) := by
    intro x
    simp only [clewref15_Right.j4]
    rw [ew, em]
    by_cases cx : x = true
    · rw [if_pos cx, if_pos cx]
    · rw [if_neg cx, if_neg cx]
      by_cases c4 : a = 4
      · rw [if_pos c4, if_pos c4]
      · rw [if_neg c4, if_neg c4]
  have j2 : ∀ x : Bool, clewref15_Right.j2 (k + 3) (l.map conv) m (i : Int) x a b = if x = true ∨ nextB a (l.drop (i + 1)) = false then some false else clewref15_Right.l0 k (l.map conv) (if a = 4 then m + 1 else m) ((i + 1 : Nat) : Int) := by
    intro x
    simp only [clewref15_Right.j2, clewref15_Right.j3]
    rw [ew]
    by_cases cx : x = true
    · rw [if_pos cx, if_pos (.inl cx)]
    rw [if_neg cx]
    have hf : (false = true) = False := by simp
    simp only [hf, if_false]
    by_cases c0 : a = 0
    · rw [if_pos c0, if_neg (by omega : ¬ a = 4), if_neg (by omega : ¬ a = 4), j4]
      by_cases cl : i + 1 < l.length
      · rw [if_pos (by simp; omega), if_pos (by omega), rd52_at cl, List.drop_eq_getElem_cons cl]
        simp only [conv, nextB, followsB, c0, if_true]
        by_cases c1 : l[i + 1].f0 = 1
        · simp [c1, cx]
        · simp [c1, cx]
      · rw [if_neg (by simp; omega), List.drop_eq_nil_of_le (by omega)]
        simp [nextB, c0, cx]
    · rw [if_neg c0]
      by_cases c4 : a = 4
      · rw [if_pos c4]
        by_cases cl : i + 1 < l.length
        · rw [if_neg (by simp; omega), if_pos (by omega), if_pos (by simp; omega), rd52_at cl, List.drop_eq_getElem_cons cl, j4, j4]
          simp only [conv, nextB, followsB, c4]
          by_cases c2 : l[i + 1].f0 = 2
          · simp [c2, cx]
          · by_cases c3 : l[i + 1].f0 = 3
            · simp [c3, cx]
            · simp [c2, c3, cx]
        · rw [if_pos (by simp; omega), j4, List.drop_eq_nil_of_le (by omega)]
          simp [nextB, c4]
      · rw [if_neg c4, j4]
        have : nextB a (l.drop (i + 1)) = true := by
          cases l.drop (i + 1) with
          | nil => simp [nextB, c4]
          | cons u r => simp [nextB, followsB, c0, c4]
        simp [this, cx]
  rw [j2, j2]
  by_cases c0 : i = 0
  · rw [if_pos (by omega)]
    by_cases c1 : a > 1
    · simp [c0, c1]
    · simp [c0, c1, cb]
  · rw [if_neg (by omega)]
    simp [c0, cb]
theorem ref_loop (l : List S43) (hl : l.length ≤ 1048576) : ∀ (d i k : Nat) (m : Int), i + d = l.length → 0 ≤ m → m ≤ i → 5 * d < k →
    clewref15_Right.l0 k (l.map conv) m (i : Int) = some ((decide (i = 0) == false || headB l) && rspec (l.drop i) m) := by
  intro d
  induction d with
  | zero =>
    intro i k m hi h0 hm hk
    obtain ⟨k, rfl⟩ : ∃ m, k = m + 1 := ⟨k - 1, by omega⟩
    simp only [clewref15_Right.l0]
    rw [if_neg (by simp; omega), List.drop_eq_nil_of_le (by omega)]
    cases l with
    | nil => simp [headB, rspec]
    | cons t r =>
      simp at hi
      have : ¬ i = 0 := by omega
      simp [rspec, this]
  | succ d ih =>
    intro i k m hi h0 hm hk
    obtain ⟨k, rfl⟩ : ∃ m, k = m + 5 := ⟨k - 5, by omega⟩
    have hlt : i < l.length := by omega
    rw [ref_l0 (k + 4) l m i hlt, ref_j k l m i _ hlt hl h0 hm, ih (i + 1) k _ (by omega) (by split <;> omega) (by split <;> omega) (by omega), List.drop_eq_getElem_cons hlt]
    have hh : i = 0 → headB l = decide (l[i].f0 ≤ 1) := by
      intro h
      subst h
      cases l with
      | nil => simp at hlt
      | cons t r => rfl
    generalize l[i] = t at *
    simp only [rspec]
    by_cases c0 : i = 0
    · rw [hh c0]
      subst c0
      cases fitsB t.f0 t.f1 m <;> cases nextB t.f0 (l.drop (0 + 1)) <;> by_cases c1 : t.f0 > 1 <;> simp [c1, Int.not_le.2, Int.not_lt.1] <;> omega
    · cases fitsB t.f0 t.f1 m <;> cases nextB t.f0 (l.drop (i + 1)) <;> simp [c0]
theorem right_ref_at (l : List S43) (k : Nat) (hk : 5 * l.length + 10 ≤ k) : clewref15_Right.f k (l.map conv) = some (rightB l) := by
  unfold clewref15_Right.f rightB
  by_cases c : (l.length : Int) > 1048576
  · rw [if_pos (by simpa using c)]
    simp
    omega
  · rw [if_neg (by simpa using c), show (0 : Int) = ((0 : Nat) : Int) from rfl, ref_loop l (by omega) l.length 0 k _ (by omega) (by omega) (by omega) (by omega)]
    have h1 : decide (l.length ≤ 1048576) = true := by simp; omega
    rw [h1]
    simp
end Go.Proofs.YtamalmopbncibaaDoor.Pure
