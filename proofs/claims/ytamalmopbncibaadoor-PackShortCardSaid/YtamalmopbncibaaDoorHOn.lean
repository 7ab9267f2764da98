/- The sum of 24 digits that the program's crc.On comes to, as a fold over the bytes; its table is a premise. -/
import Derived.Test.YtamalmopbncibaaDoorPKx0
import Derived.Laws.BitsAllLaws
namespace Go.Proofs.YtamalmopbncibaaDoor.PK
open Go.Lib Go.RowKit Go.Proofs.YtamalmopbncibaaDoorW.PrintWords Go.Proofs.YtamalmopbncibaaDoorW.PrintLast Go.Proofs.YtamalmopbncibaaDoorW.PrintMore

def crcTab : List Int := [0, 8801531, 9098509, 825846, 9692897, 1419802, 1651692, 10452759, 10584377, 2608578, 2839604, 11344079, 3303384, 11807523, 12104405, 4128302]
/-- What the program's table holds. -/
def TabW (w : World) : Prop := ∀ i, i < 16 → w.cell? ⟨0, i, none⟩ = some (.int .u32 (crcTab[i]?.getD 0))
theorem TabW.pos {w : World} (h : TabW w) : 0 < w.heap.size := by
  have h0 := h 0 (by omega)
  rcases Nat.eq_zero_or_pos w.heap.size with e | e
  · rw [World.cell?, Array.getElem?_eq_none (by simp only []; omega)] at h0
    cases h0
  · exact e
theorem TabW.below {w w' : World} (h : TabW w) (hb : Below w.heap.size w w') : TabW w' :=
  fun i hi => (hb.cell (p := ⟨0, i, none⟩) h.pos).trans (h i hi)

def chalf (n : Int) : Int := Go.bits .xor .u32 (Go.bits .and .u32 (n * 16) 16777215) (crcTab[(n / 1048576).toNat]?.getD 0)
def cin (n c : Int) : Int := Go.bits .xor .u32 n (c * 65536)
def cstep (n c : Int) : Int := chalf (chalf (cin n c))
def cfold (n : Int) (l : List UInt8) : Int := l.foldl (fun n c => cstep n (c.toNat : Int)) n
def crc_On.f (a0 : Int) (a1 : ByteArray) : Option Int := if a1.size ≤ 9223372036854775807 then some (cfold (Go.bits .and .u32 a0 16777215) a1.data.toList) else none

theorem mask24 (a : Int) : 0 ≤ Go.bits .and .u32 a 16777215 ∧ Go.bits .and .u32 a 16777215 < 16777216 := by
  have hb : (BitVec.ofInt 32 a &&& BitVec.ofInt 32 16777215).toNat < 2 ^ 24 := by
    rw [BitVec.toNat_and]
    exact Nat.lt_of_le_of_lt Nat.and_le_right (by decide)
  show 0 ≤ IntKind.u32.wrap ((BitVec.ofInt 32 a &&& BitVec.ofInt 32 16777215).toNat : Int) ∧ IntKind.u32.wrap ((BitVec.ofInt 32 a &&& BitVec.ofInt 32 16777215).toNat : Int) < 16777216
  rw [IntKind.wrap_u32']
  omega
theorem xor24 (a b : Int) (h1 : 0 ≤ a) (h2 : a < 16777216) (h3 : 0 ≤ b) (h4 : b < 16777216) : 0 ≤ Go.bits .xor .u32 a b ∧ Go.bits .xor .u32 a b < 16777216 := by
  rw [u32_xor a b h1 (by omega) h3 (by omega)]
  have := Nat.xor_lt_two_pow (n := 24) (show a.toNat < 2 ^ 24 by omega) (show b.toNat < 2 ^ 24 by omega)
  omega
theorem tab24 : ∀ i : Nat, 0 ≤ crcTab[i]?.getD 0 ∧ crcTab[i]?.getD 0 < 16777216 := by
  intro i
  rcases Nat.lt_or_ge i 16 with h | h
  · have : ∀ j : Fin 16, 0 ≤ crcTab[j.1]?.getD 0 ∧ crcTab[j.1]?.getD 0 < 16777216 := by decide
    exact this ⟨i, h⟩
  · rw [List.getElem?_eq_none (by simpa [crcTab] using h)]
    simp
theorem chalf24 (n : Int) : 0 ≤ chalf n ∧ chalf n < 16777216 :=
  xor24 _ _ (mask24 _).1 (mask24 _).2 (tab24 _).1 (tab24 _).2
theorem cin24 (n c : Int) (h1 : 0 ≤ n) (h2 : n < 16777216) (h3 : 0 ≤ c) (h4 : c < 256) : 0 ≤ cin n c ∧ cin n c < 16777216 :=
  xor24 _ _ h1 h2 (by omega) (by omega)
theorem cfold24 (l : List UInt8) : ∀ n : Int, 0 ≤ n → n < 16777216 → 0 ≤ cfold n l ∧ cfold n l < 16777216 := by
  induction l with
  | nil => intro n h1 h2; exact ⟨h1, h2⟩
  | cons c l ih =>
    intro n h1 h2
    exact ih _ (chalf24 _).1 (chalf24 _).2
theorem cfold_snoc (n : Int) (s : ByteArray) (k : Nat) (h : k < s.size) : cfold n (s.data.toList.take (k + 1)) = cstep (cfold n (s.data.toList.take k)) (s.data.toList.getD k 0).toNat := by
  have e : s.data.toList.take (k + 1) = s.data.toList.take k ++ [s.data.toList.getD k 0] := by
    have hl : k < s.data.toList.length := by simpa using h
    rw [List.take_succ_eq_append_getElem hl, List.getD_eq_getElem?_getD, List.getElem?_eq_getElem hl]
    rfl
  rw [e]
  simp [cfold, List.foldl_append]
theorem below_bytes (w : World) (e : TypeId) (s : ByteArray) : Below w.heap.size w (bytesWorld w e s) :=
  ⟨rfl, rfl, rfl, by rw [bytesWorld_size]; omega, fun j hj => bytesWorld_at_old w e s j hj⟩

set_option maxHeartbeats 1000000 in
theorem crc_On.calls (a0 : Int) (a1 : ByteArray) (r : Int) (w : World) (hTab : TabW w) (h : crc_On.f a0 a1 = some r) :
    Calls Tryd.prog 36 #[.int .u32 a0, .string a1] w fun e w' => e = .returned (.int .u32 r) ∧ Below w.heap.size w w' := by
  unfold crc_On.f at h
  by_cases hm : a1.size ≤ 9223372036854775807
  · rw [if_pos hm] at h
    obtain rfl := Option.some.inj h
    clear h
    have hcv := Go.Lib.run_convert_string_bytes (P := Tryd.prog) w 9 38 5 a1 Tryd.underlying9 Tryd.underlying38 Tryd.underlying5
    have hB := below_bytes w 5 a1
    have HT := Aside0.mk (hTab.below hB)
    have HB := Aside0.mk hB
    have HM := Aside0.mk (mask24 a0)
    have HC : Aside0 (∀ j, j < a1.size → (bytesWorld w 5 a1).cell? ⟨w.heap.size, j, none⟩ = some (.int .u8 (a1.data.toList.getD j 0).toNat)) := ⟨fun j hj => bytesWorld_cell w 5 a1 j hj⟩
    clear hB hTab
    go_enter Tryd.func36, Tryd.ntmps36
    go_wp2
    go_loop [5, 13] (fun n i => ∃ k : Nat, k ≤ a1.size ∧ i = .int .i64 k ∧ n = .int .u32 (cfold (Go.bits .and .u32 a0 16777215) (a1.data.toList.take k))) (fun _ i => a1.size - (intOf i).toNat)
    case atStart => exact ⟨0, Nat.zero_le _, rfl, rfl⟩
    case round =>
      clear hcv
      obtain ⟨k, hk, rfl, rfl⟩ := hrel
      by_cases hlt : k < a1.size
      · have hN := cfold24 (a1.data.toList.take k) _ HM.out.1 HM.out.2
        have HS := Aside0.mk (cfold_snoc (Go.bits .and .u32 a0 16777215) a1 k hlt)
        have hc := HC.out k hlt
        generalize hcc : a1.data.toList.getD k 0 = c at hc HS
        clear hcc
        generalize cfold (Go.bits .and .u32 a0 16777215) (a1.data.toList.take k) = N at hN HS ⊢
        obtain ⟨hN1, hN2⟩ := hN
        have hc2 : c.toNat < 256 := c.toNat_lt
        have hi := cin24 N c.toNat hN1 hN2 (by omega) (by omega)
        have ht1 := HT.out (cin N c.toNat / 1048576).toNat (by omega)
        have hh := chalf24 (cin N c.toNat)
        have ht2 := HT.out (chalf (cin N c.toNat) / 1048576).toNat (by omega)
        simp only [chalf, cin] at hi ht1 hh ht2
        go_wp2
        go_wp2
        all_goals
          go_round
          case rel => exact ⟨k + 1, by omega, by go_num, by rw [HS.out]; rfl⟩
          case measure => simp [intOf]; omega
      · go_wp2
        go_ret
        have hfin : a1.data.toList.take k = a1.data.toList := List.take_of_length_le (by simp; omega)
        exact ⟨by simp [hfin], HB.out⟩
  · rw [if_neg hm] at h
    cases h
end Go.Proofs.YtamalmopbncibaaDoor.PK
