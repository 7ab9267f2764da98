/- What is not decoded has no tokens; what may be has bytes. -/
import Derived.Test.YtamalmopbncibaaDoorPureFormat
import Derived.Test.YtamalmopbncibaaDoorPureEv
namespace Go.Proofs.YtamalmopbncibaaDoor.Pure
open Go.RowKit Go.Proofs.YtamalmopbncibaaDoor.PK Go.Proofs.YtamalmopbncibaaDoorW.PrintWords Go.Proofs.YtamalmopbncibaaDoorW.PrintLast Go.Proofs.YtamalmopbncibaaDoorW.PrintMore
set_option linter.unusedVariables false
theorem told_nil (x : ByteArray) (r : List S43 × Nat × Int) (h : (told x r).2 ≠ 0) : (told x r).1 = [] := by
  unfold told at h ⊢
  split at h
  · next c =>
    rw [if_pos c]
    split at h
    · exact absurd rfl h
    · next c2 => rw [if_neg c2]
  · next c => rw [if_neg c]
theorem dec_nil (s : ByteArray) (h : (decS s).2 ≠ 0) : (decS s).1 = [] := by
  unfold decS at h ⊢
  by_cases c0 : (open24 s).2 = 0
  · rw [if_pos c0] at h ⊢
    by_cases c1 : clewB (open24 s).1 = true
    · rw [if_pos c1] at h ⊢
      by_cases c2 : (wget (open24 s).1 4).2.2 = 0
      · rw [if_pos c2] at h ⊢
        by_cases c3 : (wget (open24 s).1 4).1 > 1048576
        · rw [if_pos c3]
        · rw [if_neg c3] at h ⊢
          exact told_nil _ _ h
      · rw [if_neg c2]
    · rw [if_neg c1]
  · rw [if_neg c0]
theorem enc_ne {l : List S43} (h : rightB l = true) : (encS l).toList ≠ ([] : List UInt8) := by
  intro e
  have h2 := congrArg List.length e
  have hz := seal_size (body l)
  rw [enc_body h] at h2
  rw [ByteArray.toList_eq, data_length, hz] at h2
  simp at h2
theorem enc_none {l : List S43} (h : ¬ rightB l = true) : (encS l).toList = ([] : List UInt8) := by
  unfold encS
  rw [if_neg h, ByteArray.toList_eq]
end Go.Proofs.YtamalmopbncibaaDoor.Pure
