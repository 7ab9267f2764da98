/- pack.Encode: the bytes that it comes to, out of its callees' answers. -/
import Derived.Test.YtamalmopbncibaaDoorPKx3
import Derived.Test.YtamalmopbncibaaDoorPKx7
import Derived.Test.YtamalmopbncibaaDoorHBuild
import Derived.Test.YtamalmopbncibaaDoorShelf
import Derived.Lib.Hide
namespace Go.Proofs.YtamalmopbncibaaDoor.PK
open Go.RowKit Go.Proofs.YtamalmopbncibaaDoorW.PrintWords Go.Proofs.YtamalmopbncibaaDoorW.PrintLast Go.Proofs.YtamalmopbncibaaDoorW.PrintMore

/-- A token's number. -/
def tokNum (t : S43) : Int := IntKind.u64.wrap (wrap64 (wrap64 (t.f1 * 6) + t.f0))
def pack_Encode.l (k : Nat) : List S43 → ByteArray → Option ByteArray
  | [], b => some b
  | t :: r, b => (wire_Put.f k (tokNum t)).bind fun s => if b.size + s.size ≤ 140737488355328 then pack_Encode.l k r (b ++ s) else none
def clew4 : ByteArray := ⟨#[67, 76, 69, 87]⟩
def pack_Encode.f (k : Nat) (l : List S43) : Option ByteArray :=
  (cert_Right.f k l).bind fun ok => if ok = true then (wire_Put.f k (IntKind.u64.wrap (l.length : Int))).bind fun s => if 4 + s.size ≤ 140737488355328 then (pack_Encode.l k l (clew4 ++ s)).bind fun b => crc_Seal.f b else none else some ⟨#[]⟩

theorem pack_Encode.mono_l (k : Nat) : ∀ (l : List S43) (b : ByteArray), LeO (pack_Encode.l k l b) (pack_Encode.l (k + 1) l b)
  | [], _ => LeO.refl _
  | t :: r, b => by
    unfold pack_Encode.l
    refine LeO.bind (wire_Put.mono _ _) (fun s => ?_)
    refine LeO.ite (pack_Encode.mono_l k r _) (LeO.none _)
theorem pack_Encode.mono : ∀ a0 k, LeO (pack_Encode.f k a0) (pack_Encode.f (k + 1) a0) := by
  intro l k
  unfold pack_Encode.f
  refine LeO.bind (cert_Right.mono _ _) (fun s => ?_)
  refine LeO.ite ?_ (LeO.refl _)
  refine LeO.bind (wire_Put.mono _ _) (fun s => ?_)
  refine LeO.ite ?_ (LeO.none _)
  exact LeO.bind (pack_Encode.mono_l k _ _) (fun _ => LeO.refl _)

theorem enc_step {k : Nat} {l0 : List S43} {j : Nat} {acc bb : ByteArray} (hlt : j < l0.length) (h : pack_Encode.l k (l0.drop j) acc = some bb) :
    ∃ s, wire_Put.f k (IntKind.u64.wrap (wrap64 (wrap64 ((rd_T43 l0 (j : Int)).f1 * 6) + (rd_T43 l0 (j : Int)).f0))) = some s ∧ acc.size + s.size ≤ 140737488355328 ∧ pack_Encode.l k (l0.drop (j + 1)) (acc ++ s) = some bb := by
  rw [List.drop_eq_getElem_cons hlt] at h
  unfold pack_Encode.l at h
  obtain ⟨s, h1, h2⟩ := Option.bind_eq_some_iff.mp h
  by_cases h3 : acc.size + s.size ≤ 140737488355328
  · rw [if_pos h3] at h2
    refine ⟨s, ?_, h3, h2⟩
    have e : rd_T43 l0 (j : Int) = l0[j] := by
      unfold rd_T43
      rw [Int.toNat_natCast, List.getD_eq_getElem?_getD, List.getElem?_eq_getElem hlt]
      rfl
    rw [e]
    exact h1
  · rw [if_neg h3] at h2
    cases h2
theorem enc_end {k : Nat} {l0 : List S43} {j : Nat} {acc bb : ByteArray} (hlt : ¬ j < l0.length) (h : pack_Encode.l k (l0.drop j) acc = some bb) : acc = bb := by
  rw [List.drop_eq_nil_of_le (by omega)] at h
  exact Option.some.inj h
theorem right_len {k : Nat} {l : List S43} (h : cert_Right.f k l = some true) : l.length ≤ 1048576 := by
  unfold cert_Right.f at h
  by_cases c : (l.length : Int) > 1048576
  · rw [if_pos c] at h
    cases h
  · omega
theorem builder_keep {T e : TypeId} {B b : Nat} {p : Value} {bs : List Value} {w w' : World} (h : Lib.BuilderAt T e B b p bs w) (hb : Below w.heap.size w w') : Lib.BuilderAt T e B b p bs w' := by
  have hlt := h.lt
  obtain ⟨hB, v, hbk, hown, hne⟩ := h
  exact ⟨hB, v, (hb.block b hlt).trans hbk, own_move hown (fun k hk => hb.block k (hown.lt k hk).2), hne⟩

set_option maxHeartbeats 2000000 in
set_option maxRecDepth 100000 in
theorem pack_Encode.calls (k : Nat) (A0 : Option Addr) (c0 : Nat) (l0 : List S43) (r : ByteArray) (w : World) (hr0 : Kd.C k43 w A0 l0.length l0) (hc0 : l0.length ≤ c0) (hTab : TabW w) (h : pack_Encode.f k l0 = some r) :
    Calls Tryd.prog 10 #[.slice A0 l0.length c0] w fun e w' => e = .returned (.string r) ∧ Below w.heap.size w w' := by
  have HR := Aside0.mk hr0
  have HC := Aside0.mk hc0
  have HT := Aside0.mk hTab
  clear hr0 hc0 hTab
  obtain ⟨ok, h1, h⟩ := Option.bind_eq_some_iff.mp h
  have H1 := Aside0.mk h1
  clear h1
  cases ok with
  | false =>
    obtain rfl := Option.some.inj h
    clear h
    go_enter Tryd.func10, Tryd.ntmps10
    go_wp2_with fail
    refine (cert_Right.calls k A0 c0 l0 false _ HR.out HC.out H1.out).mono ?_
    rintro e w1 ⟨rfl, hb1⟩
    go_wp2
    go_ret
    exact ⟨rfl, hb1⟩
  | true =>
    simp only [if_true] at h
    obtain ⟨s, h2, h⟩ := Option.bind_eq_some_iff.mp h
    by_cases h3 : 4 + s.size ≤ 140737488355328
    · rw [if_pos h3] at h
      obtain ⟨bb, h4, h5⟩ := Option.bind_eq_some_iff.mp h
      have H2 := Aside0.mk h2
      have H4 := Aside0.mk h4
      have H5 := Aside0.mk h5
      clear h2 h4 h5 h
      go_enter Tryd.func10, Tryd.ntmps10
      go_wp2_with fail
      refine (cert_Right.calls k A0 c0 l0 true _ HR.out HC.out H1.out).mono ?_
      rintro e w1 ⟨rfl, hb1⟩
      have HB1 := Aside0.mk hb1
      clear hb1
      go_wp2_with fail
      refine (HB.writeString w1.heap.size w1.heap.size [] clew4 _ (Lib.fresh_isBuilder 59 5 w1) (by decide) (by simp)).mono ?_
      rintro e w2 ⟨rfl, hi2, hb2⟩
      go_wp2_with fail
      refine (wire_Put.calls k _ s _ H2.out).mono ?_
      rintro e w3 ⟨rfl, hb3⟩
      have hi3 := builder_keep hi2 hb3
      have hsz3 : w1.heap.size ≤ w3.heap.size := by have := hb3.size; have := hb2.size; simp at this; omega
      go_wp2_with fail
      refine (HB.writeString w1.heap.size w1.heap.size _ s _ (.inr hi3) (by simp only [List.nil_append, Lib.strCells_length]; exact h3) hsz3).mono ?_
      rintro e w4 ⟨rfl, hi4, hb4⟩
      have HI4 := Lib.hid hi4
      have HB4 : Aside0 (Below w1.heap.size w1 w4) := ⟨(((((Below.refl _ _).alloc (Nat.le_refl _) _).trans hb2).trans (hb3.mono (by have := hb2.size; simp at this; omega))).trans hb4)⟩
      clear hi4 hi3 hi2 hb2 hb3 hb4 hsz3 h3
      go_wp2_with fail
      have hlen := right_len H1.out
      go_loopw [17] (fun i wr => ∃ (j : Nat) (acc : ByteArray), j ≤ l0.length ∧ i = .int .i64 j ∧ Aside0 (pack_Encode.l k (l0.drop j) acc = some bb) ∧ Aside0 (Lib.BuilderAt 59 5 w1.heap.size w1.heap.size (.pointer (some ⟨w1.heap.size, 0, none⟩)) (Lib.strCells acc) wr) ∧ Aside0 (Below w1.heap.size w1 wr)) (fun i _ => l0.length - (intOf i).toNat)
      case atStart => exact ⟨0, clew4 ++ s, Nat.zero_le _, rfl, ⟨H4.out⟩, ⟨by have := HI4.out; simpa [Lib.strCells] using this⟩, ⟨HB4.out⟩⟩
      case round =>
        obtain ⟨j, acc, hj, rfl, HL, HI, HBr⟩ := hrel
        by_cases hlt : j < l0.length
        · have hC := Kd.C_below HR.out (HB1.out.trans (HBr.out.mono HB1.out.size))
          obtain ⟨ad, e1, hc1, hc2⟩ := at_T43 hC (j : Int) (by omega) (by omega)
          clear hC
          subst e1
          simp only [Int.toNat_natCast] at hc1 hc2
          go_wp2_with fail
          obtain ⟨s2, hp, hsz, hl2⟩ := enc_step hlt HL.out
          have HL2 := Aside0.mk hl2
          have HS2 := Aside0.mk hsz
          clear hl2 HL hsz
          refine (wire_Put.calls k _ s2 _ hp).mono ?_
          rintro e w5 ⟨rfl, hb5⟩
          have hi5 := builder_keep (builder_keep HI.out ((Below.refl _ _).alloc (Nat.le_refl _) (Obj.cells #[Value.int IntKind.i64 (rd_T43 l0 (j : Int)).f0, Value.int IntKind.i64 (rd_T43 l0 (j : Int)).f1] 43))) hb5
          have HB5 : Aside0 (Below w1.heap.size w1 w5) := ⟨(HBr.out.alloc HBr.out.size _).trans (hb5.mono (by have := HBr.out.size; simp; omega))⟩
          clear hb5 hp hc1 hc2
          go_wp2_with fail
          refine (HB.writeString w1.heap.size w1.heap.size _ s2 _ (.inr hi5) (by simp only [Lib.strCells_length]; exact HS2.out) HB5.out.size).mono ?_
          rintro e w6 ⟨rfl, hi6, hb6⟩
          have HI6 := Lib.hid hi6
          have HB6 := Aside0.mk (HB5.out.trans hb6)
          clear hi6 hi5 hb6
          go_wp2
          go_roundw
          case rel => exact ⟨j + 1, acc ++ s2, by omega, by go_num, ⟨HL2.out⟩, ⟨by have := HI6.out; simpa [Lib.strCells] using this⟩, ⟨HB6.out⟩⟩
          case measure => simp [intOf]; omega
        · have ha := enc_end hlt HL.out
          subst ha
          clear HL
          go_wp2_with fail
          refine (Tryd.Builder_String_any w1.heap.size w1.heap.size acc.data.toList _ (.inr HI.out) HBr.out.size).mono ?_
          rintro e w5 ⟨rfl, hb5⟩
          have HB5 := Aside0.mk (HBr.out.trans hb5)
          clear hb5
          go_wp2_with fail
          refine (crc_Seal.calls acc r _ (TabW.below HT.out (HB1.out.trans (HB5.out.mono HB1.out.size))) H5.out).mono ?_
          rintro e w6 ⟨rfl, hb6⟩
          go_wp2
          go_ret
          exact ⟨rfl, (HB1.out.trans (HB5.out.mono HB1.out.size)).trans (hb6.mono (by have := HB1.out.size; have := HB5.out.size; omega))⟩
    · rw [if_neg h3] at h
      cases h
end Go.Proofs.YtamalmopbncibaaDoor.PK
