/- Show. -/
import Derived.Test.YtcgcoblecpbgbaaDoorCAgain
import Derived.Test.YtcgcoblecpbgbaaDoorShelf
import Derived.Lib.AppendIntMem
import Derived.Lib.LaidTab
import Derived.Lib.ItoaLen
namespace Go.Proofs.YtcgcoblecpbgbaaDoor.CP
open Go.RowKit Go.Proofs.YtcgcoblecpbgbaaDoorW.PrintWords Go.Proofs.YtcgcoblecpbgbaaDoorW.PrintLast Go.Proofs.YtcgcoblecpbgbaaDoorW.PrintMore
attribute [local go_sem] max2_int min2_int max_two min_two max_three min_three max_four min_four
set_option linter.unusedVariables false
set_option linter.unusedSimpArgs false
/-- What the table of powers of ten holds. -/
def TabW (w : World) : Prop := Lib.TabIs Tryd.prog w "internal/strconv.uint64pow10" .u64 Lib.pow10Tab
theorem TabW.below {w w' : World} (h : TabW w) (hb : Below w.heap.size w w') : TabW w' := by
  unfold TabW Lib.TabIs World.var? at h ⊢
  cases hg : Tryd.prog.globalNamed "internal/strconv.uint64pow10" with
  | none => simp [hg] at h
  | some g =>
    simp only [hg, Option.bind_some] at h ⊢
    have hlt : g < w.heap.size := by
      rcases Nat.lt_or_ge g w.heap.size with h' | h'
      · exact h'
      · simp [Array.getElem?_eq_none h'] at h
    rw [hb.block g hlt]
    exact h
def Wf (p : List Int) : Prop := ∀ x ∈ p, (Lit.int .i64 x).wf = true
theorem Wf.get {p : List Int} (h : Wf p) (i : Nat) : -9223372036854775808 ≤ p.getD i 0 ∧ p.getD i 0 ≤ 9223372036854775807 := by
  rcases Nat.lt_or_ge i p.length with c | c
  · have hm : p.getD i 0 ∈ p := by rw [List.getD_eq_getElem?_getD, List.getElem?_eq_getElem c]; exact List.getElem_mem c
    have := h _ hm
    simp only [Lit.wf, Bool.and_eq_true, decide_eq_true_eq] at this
    exact this
  · rw [List.getD_eq_getElem?_getD, List.getElem?_eq_none c]
    simp
def itoaS (n : Int) : ByteArray := ⟨(Lib.itoa n).toArray⟩
def quest : ByteArray := ⟨#[63]⟩
def dash : ByteArray := ⟨#[45]⟩
def comma : ByteArray := ⟨#[44]⟩
def itemB (b : List Bool) (p : List Int) (g : Int) : ByteArray := if (getB b p g).2.2 = true then itoaS (getB b p g).1 ++ dash ++ itoaS (getB b p g).2.1 else quest
def itemsB (b : List Bool) (p : List Int) (n : Nat) : List ByteArray := (List.range n).map fun (j : Nat) => itemB b p ((j : Int) + 1)
theorem itemsB_succ (b : List Bool) (p : List Int) (n : Nat) : itemsB b p (n + 1) = itemsB b p n ++ [itemB b p ((n : Int) + 1)] := by
  unfold itemsB
  rw [List.range_succ, List.map_append]
  rfl
def joinS (l : List ByteArray) : ByteArray := ⟨(Lib.join (l.map (·.data.toList)) comma.data.toList).toArray⟩
def showN (n : Int) : Nat := (if 9 < n then 9 else n).toNat
def showB (b : List Bool) (p : List Int) (n : Int) : ByteArray := joinS (itemsB b p (showN n))
theorem info9 : (Tryd.prog.info? 9).map (fun i => (i.zero, i.size, i.bytes)) = some (some (.string ⟨#[]⟩), 1, 16) := by kernel_rfl
attribute [-go_sem] loadVar storeVar
attribute [local go_sem] load3 load4 store4 store23
theorem itoa_at (n : Int) (h : -9223372036854775808 ≤ n ∧ n ≤ 9223372036854775807) (w : World) (ht : TabW w) : Calls Tryd.prog 23 #[.int .i64 n] w fun e w' => e = .returned (.string (itoaS n)) ∧ Below w.heap.size w w' :=
  (Tryd.strconv_Itoa n h.1 h.2 w ht).mono fun e w' ⟨he, k, os, hw⟩ => ⟨he, by rw [hw]; exact Lib.below_grow _ _ (Nat.le_refl _) k os⟩
theorem strs_cells {w : World} {base : Nat} {ok : Nat → Prop} {v : Value} {xs : List ByteArray} (h : Kd.R Kd.string 9 w base ok v xs) : (v = .slice none 0 0 ∧ xs = []) ∨
    ∃ g cap, v = .slice (some ⟨g, 0, none⟩) xs.length cap ∧ xs.length ≤ cap ∧ g < w.heap.size ∧ ∀ (j : Nat) x, xs[j]? = some x → w.cell? ⟨g, 0 + j, none⟩ = some (.string x) := by
  obtain ⟨_, inner, ⟨hlen, hor⟩, hrep⟩ := h
  rcases hor with ⟨hv, h0⟩ | ⟨g, cap, cur, hv, hbase, hcells, hnc, hcm, hcs, htake⟩
  · exact .inl ⟨hv, List.eq_nil_of_length_eq_zero h0⟩
  · refine .inr ⟨g, cap, hv, hnc, (Array.getElem?_eq_some_iff.1 hcells).1, fun j x hj => ?_⟩
    have h1 : (inner.drop (j * 1)).take 1 = [Value.string x] := hrep.2 j x hj
    have h2 : inner[j]? = some (Value.string x) := by
      have := congrArg (fun l => l[0]?) h1
      simp only [Nat.mul_one, List.getElem?_cons_zero] at this
      rw [List.getElem?_take, if_pos (by omega), List.getElem?_drop, Nat.add_zero] at this
      exact this
    rw [Nat.zero_add, cell_of_row w g j cur 9 (0, 0) hcells]
    have h3 : (cur.toList.take (xs.length * 1))[j]? = some (Value.string x) := by
      have e : cur.toList.take (xs.length * 1) = inner := htake
      rw [e]
      exact h2
    rw [List.getElem?_take] at h3
    split at h3
    · rw [← Array.getElem?_toList]
      exact h3
    · cases h3
theorem itoaS_size (n : Int) (h : -9223372036854775808 ≤ n ∧ n ≤ 9223372036854775807) : (itoaS n).size ≤ 21 := by
  have := Lib.itoa_length_le n h.1 h.2
  show (Lib.itoa n).toArray.size ≤ 21
  simpa using this
theorem get_range {b : List Bool} {p : List Int} {g f t : Int} {i : Bool} (hw : Wf p) (h : getB b p g = (f, t, i)) : (-9223372036854775808 ≤ f ∧ f ≤ 9223372036854775807) ∧ (-9223372036854775808 ≤ t ∧ t ≤ 9223372036854775807) := by
  unfold getB at h
  by_cases c : hasB b g = true
  · rw [if_pos c] at h
    simp only [Prod.mk.injEq] at h
    rw [← h.1, ← h.2.1]
    exact ⟨hw.get _, hw.get _⟩
  · rw [if_neg c] at h
    simp only [Prod.mk.injEq] at h
    omega
set_option maxHeartbeats 4000000 in
set_option maxRecDepth 100000 in
theorem caps_Show.calls (b : List Bool) (p : List Int) (n : Int) (w : World) (hb : b.length = 9) (hp : p.length = 18) (hw : Wf p) (hT : TabW w) (hj : (Lib.join ((itemsB b p (showN n)).map (·.data.toList)) comma.data.toList).length ≤ 140737488355328) :
    Calls Tryd.prog 15 #[.agg (capsC b p).toArray, .int .i64 n] w fun e w' => e = .returned (.string (showB b p n)) ∧ Below w.heap.size w w' := by
  have HJ := Aside0.mk hj
  have HW := Aside0.mk hw
  have HL := Aside0.mk (lies_new w 26 b p hb hp)
  have HT := Aside0.mk (hT.below ((Below.refl w.heap.size w).alloc (Nat.le_refl _) (.cells (capsC b p).toArray 26)))
  have HA := Aside0.mk ((Below.refl w.heap.size w).alloc (Nat.le_refl _) (.cells (capsC b p).toArray 26))
  have hs1 : (w.alloc (.cells (capsC b p).toArray 26)).heap.size = w.heap.size + 1 := by simp
  have HS := Aside0.mk hs1
  clear hj hw hT hb hp hs1
  obtain ⟨m, hm⟩ : ∃ m : Int, (if 9 < n then 9 else n) = m := ⟨_, rfl⟩
  have hm9 : m ≤ 9 := by rw [← hm]; split <;> omega
  have hmN : showN n = m.toNat := by unfold showN; rw [hm]
  rw [hmN] at HJ
  have HSh : Aside0 (showB b p n = joinS (itemsB b p m.toNat)) := ⟨by unfold showB; rw [hmN]⟩
  clear hmN
  go_enter Tryd.func15, Tryd.ntmps15
  go_wp2_with fail
  obtain ⟨W1, hW1⟩ : ∃ W1, W1 = w.alloc (.cells (capsC b p).toArray 26) := ⟨_, rfl⟩
  rw [← hW1] at HL HT HA HS ⊢
  clear hW1
  go_loopw [5, 6] (fun l g wr => ∃ (j : Nat), g = .int .i64 ((j : Int) + 1) ∧ j ≤ m.toNat ∧ Aside0 (Kd.R Kd.string 9 wr W1.heap.size (fun _ => True) l (itemsB b p j)) ∧ Aside0 (Below W1.heap.size W1 wr)) (fun l g _ => 20 - (intOf g).toNat)
  case atStart => exact ⟨0, rfl, Nat.zero_le _, ⟨Kd.R_nil _ _ _ _ _⟩, ⟨Below.refl _ _⟩⟩
  case round =>
    obtain ⟨j, rfl, hj, HR, HBr⟩ := hrel
    by_cases hlt : (j : Int) + 1 ≤ m
    · have d1 : decide ((j : Int) + 1 ≤ m) = true := decide_eq_true hlt
      have hLr := (HL.out.far (HBr.out.block w.heap.size (by rw [HS.out]; omega))).load
      obtain ⟨⟨f, t, is⟩, hG⟩ : ∃ x, getB b p ((j : Int) + 1) = x := ⟨_, rfl⟩
      have HG := Aside0.mk hG
      have HLen : Aside0 ((itemsB b p j).length = j) := ⟨by simp [itemsB]⟩
      have HJ9 : Aside0 (j ≤ 9) := ⟨by omega⟩
      cases is with
      | false =>
        have HI : Aside0 (itemB b p ((j : Int) + 1) = quest) := ⟨by unfold itemB; rw [hG]; rfl⟩
        clear hG
        go_wp2_with fail
        refine (caps_Get.at HG.out _ HL.out.2.1 HL.out.2.2).mono ?_
        rintro e w2 ⟨rfl, hb2⟩
        have HR2 := Aside0.mk (Kd.R_below HR.out hb2)
        have HB2 := Aside0.mk (HBr.out.trans (hb2.mono HBr.out.size))
        clear hb2 HR HBr hLr
        go_wp2_with (first | ((with_reducible refine gate_builtin (b := .append) (xs := #[.tmp 25, .tmp 26]) rfl ?_); at_builtin; refine Kd.R_append Kd.string (w0 := W1) W1.heap.size rfl (.tmp 25) (.tmp 26) 57 9 (.string ⟨#[]⟩) 16 rfl Tryd.underlying57 info9 rfl (by decide) (by omega) u5 (itemsB b p j) quest [.string quest] (fun _ => True) (fun _ => False) rfl rfl ?aP (fun _ hk => hk.elim) ?aF ?aO ?aB ?aS ?aL ?_; (case aP => rfl); (case aF => exact fun _ _ => trivial); (case aO => exact HR2.out); (case aB => exact HB2.out); (case aS => exact HB2.out.size); (case aL => have := HLen.out; have := HJ9.out; omega); intro v1 w9 ho hb9 hg9 hat9; have HO9 := Aside0.mk ho; have HB9 := Aside0.mk hb9; clear ho hb9 hg9 hat9))
        go_roundw
        case measure => simp [intOf]; omega
        case rel => exact ⟨j + 1, by go_num, by omega, ⟨by rw [itemsB_succ, HI.out]; exact HO9.out⟩, ⟨HB9.out⟩⟩
      | true =>
        have HI : Aside0 (itemB b p ((j : Int) + 1) = itoaS f ++ dash ++ itoaS t) := ⟨by unfold itemB; rw [hG]; rfl⟩
        have hF := get_range HW.out hG
        have hz1 := itoaS_size f hF.1
        have hz2 := itoaS_size t hF.2
        have HF := Aside0.mk hF
        clear hG hF
        go_wp2_with fail
        refine (caps_Get.at HG.out _ HL.out.2.1 HL.out.2.2).mono ?_
        rintro e w2 ⟨rfl, hb2⟩
        have HT2 := Aside0.mk (HT.out.below (HBr.out.trans (hb2.mono HBr.out.size)))
        go_wp2_with fail
        refine (itoa_at f HF.out.1 _ HT2.out).mono ?_
        rintro e w3 ⟨rfl, hb3⟩
        have HT3 := Aside0.mk (HT2.out.below hb3)
        go_wp2_with fail
        refine (itoa_at t HF.out.2 _ HT3.out).mono ?_
        rintro e w4 ⟨rfl, hb4⟩
        have HR2 := Aside0.mk (Kd.R_below (Kd.R_below (Kd.R_below HR.out hb2) hb3) hb4)
        have HB2 := Aside0.mk (((HBr.out.trans (hb2.mono HBr.out.size)).trans (hb3.mono (Nat.le_trans HBr.out.size hb2.size))).trans (hb4.mono (Nat.le_trans (Nat.le_trans HBr.out.size hb2.size) hb3.size)))
        clear hb2 hb3 hb4 HR HBr hLr
        go_wp2_with (first | ((with_reducible refine gate_builtin (b := .append) (xs := #[.tmp 28, .tmp 35]) rfl ?_); at_builtin; refine Kd.R_append Kd.string (w0 := W1) W1.heap.size rfl (.tmp 28) (.tmp 35) 57 9 (.string ⟨#[]⟩) 16 rfl Tryd.underlying57 info9 rfl (by decide) (by omega) u5 (itemsB b p j) (itoaS f ++ dash ++ itoaS t) [.string (itoaS f ++ dash ++ itoaS t)] (fun _ => True) (fun _ => False) rfl rfl ?aP (fun _ hk => hk.elim) ?aF ?aO ?aB ?aS ?aL ?_; (case aP => rfl); (case aF => exact fun _ _ => trivial); (case aO => exact HR2.out); (case aB => exact HB2.out); (case aS => exact HB2.out.size); (case aL => have := HLen.out; have := HJ9.out; omega); intro v1 w9 ho hb9 hg9 hat9; have HO9 := Aside0.mk ho; have HB9 := Aside0.mk hb9; clear ho hb9 hg9 hat9))
        go_roundw
        case measure => simp [intOf]; omega
        case rel => exact ⟨j + 1, by go_num, by omega, ⟨by rw [itemsB_succ, HI.out]; exact HO9.out⟩, ⟨HB9.out⟩⟩
    · have d1 : decide ((j : Int) + 1 ≤ m) = false := decide_eq_false hlt
      have hjm : itemsB b p m.toNat = itemsB b p j := by rw [show m.toNat = j by omega]
      have HJM := Aside0.mk hjm
      clear hjm
      rcases strs_cells HR.out with ⟨rfl, h0⟩ | ⟨gk, cap, rfl, hcap, hgk, hcells⟩
      · have H0 := Aside0.mk h0
        clear h0
        go_wp2_with fail
        refine (Tryd.strings_Join_none none 0 comma _).mono ?_
        rintro e w2 ⟨rfl, rfl⟩
        go_wp2
        go_ret
        rw [HSh.out, HJM.out, H0.out]
        exact ⟨rfl, HA.out.trans (HBr.out.mono (by rw [HS.out]; omega))⟩
      · have HC := Aside0.mk hcells
        have HK := Aside0.mk (And.intro hcap hgk)
        have HLen : Aside0 ((itemsB b p j).length = j) := ⟨by simp [itemsB]⟩
        clear hcells hcap hgk
        go_wp2_with fail
        refine (Tryd.strings_Join gk 0 cap (itemsB b p j) comma _ HC.out HK.out.2 (by have := HLen.out; omega) HK.out.1 (by rw [← HJM.out]; exact HJ.out)).mono ?_
        rintro e w2 ⟨rfl, hb2⟩
        go_wp2
        go_ret
        rw [HSh.out, HJM.out]
        exact ⟨rfl, (HA.out.trans (HBr.out.mono (by rw [HS.out]; omega))).trans (hb2.mono (by have := HBr.out.size; rw [HS.out] at this; omega))⟩
end Go.Proofs.YtcgcoblecpbgbaaDoor.CP
