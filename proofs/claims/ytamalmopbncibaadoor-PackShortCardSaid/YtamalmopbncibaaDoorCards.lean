/-
  DERIVED. GIVEN WITH THE SEED: THE CARDS: each row of YtamalmopbncibaaDoorRows.lean that lists a variable, with what it lists TIED to the program's text (the seventh form; the later family's looks); each row that meets fmt, with fmt's text TOLD by the authors' own Lean function (tested against real Go, not proved from fmt's source: count such statements apart). THE CARD IS WHAT COUNTS. Prove the row's statement (the work); the ties are given (YtamalmopbncibaaDoorTie.lean); close each card by the builder's one call (the guide's Derived/Test/ToyasCard.lean, 'card_holds'). Laid BY PROGRAM, IN A SANDBOX (cutbox-door.mjs). By AI agents, Wed Nov 11 2026. No macro, syntax, notation, axiom, sorry.
-/
import Derived.Test.YtamalmopbncibaaDoorRows
import GoSem.ClaimSeven
namespace Go.Proofs.YtamalmopbncibaaDoor
namespace Rows

/-- THE TIED CARD OF 'clewlaw16.PackTells'. -/
def packTellsCard : Claim7 := { stood := { row := packTellsRow, standIns := [], harness := (true, "a3eb9f9a666f88b6d22f964a7ee56cfa40864f40b775799e192c39148f4da826"), looks := false }, kinds := [], alts := [], laidByText := true, laidKinds := [.data], laidTests := true, laidLooks := .later }
def PackTellsCardSaid : Prop := Claim7.holds Tryd.pinned (.plain (OpenSpec.ofChange packTellsSpec)) packTellsCard

/-- THE TIED CARD OF 'clewlaw16.PackBack'. -/
def packBackCard : Claim7 := { stood := { row := packBackRow, standIns := [], harness := (true, "a3eb9f9a666f88b6d22f964a7ee56cfa40864f40b775799e192c39148f4da826"), looks := false }, kinds := [], alts := [], laidByText := true, laidKinds := [.data], laidTests := true, laidLooks := .later }
def PackBackCardSaid : Prop := Claim7.holds Tryd.pinned (.plain (OpenSpec.ofChange packBackSpec)) packBackCard

/-- THE TIED CARD OF 'clewlaw16.PackShort'. -/
def packShortCard : Claim7 := { stood := { row := packShortRow, standIns := [], harness := (true, "a3eb9f9a666f88b6d22f964a7ee56cfa40864f40b775799e192c39148f4da826"), looks := false }, kinds := [], alts := [], laidByText := true, laidKinds := [.data], laidTests := true, laidLooks := .later }
def PackShortCardSaid : Prop := Claim7.holds Tryd.pinned (.plain (OpenSpec.ofChange packShortSpec)) packShortCard

/-- THE TIED CARD OF 'clewlaw16.PackLong'. -/
def packLongCard : Claim7 := { stood := { row := packLongRow, standIns := [], harness := (true, "a3eb9f9a666f88b6d22f964a7ee56cfa40864f40b775799e192c39148f4da826"), looks := false }, kinds := [], alts := [], laidByText := true, laidKinds := [.data], laidTests := true, laidLooks := .later }
def PackLongCardSaid : Prop := Claim7.holds Tryd.pinned (.plain (OpenSpec.ofChange packLongSpec)) packLongCard

/-- THE SECOND FORM's CARD OF 'clewlaw16.PackTells'. -/
def packTellsUptoCard : Claim7 := { stood := { row := packTellsUptoRow, standIns := [], harness := (true, "a3eb9f9a666f88b6d22f964a7ee56cfa40864f40b775799e192c39148f4da826"), looks := false }, kinds := [], alts := [], laidByText := true, laidKinds := [.data], laidTests := true, laidLooks := .later }
def PackTellsUptoCardSaid : Prop := Claim7.holds Tryd.pinned (.plain (OpenSpec.upto packTellsSpec)) packTellsUptoCard

/-- THE SECOND FORM's CARD OF 'clewlaw16.PackBack'. -/
def packBackUptoCard : Claim7 := { stood := { row := packBackUptoRow, standIns := [], harness := (true, "a3eb9f9a666f88b6d22f964a7ee56cfa40864f40b775799e192c39148f4da826"), looks := false }, kinds := [], alts := [], laidByText := true, laidKinds := [.data], laidTests := true, laidLooks := .later }
def PackBackUptoCardSaid : Prop := Claim7.holds Tryd.pinned (.plain (OpenSpec.upto packBackSpec)) packBackUptoCard

/-- THE SECOND FORM's CARD OF 'clewlaw16.PackShort'. -/
def packShortUptoCard : Claim7 := { stood := { row := packShortUptoRow, standIns := [], harness := (true, "a3eb9f9a666f88b6d22f964a7ee56cfa40864f40b775799e192c39148f4da826"), looks := false }, kinds := [], alts := [], laidByText := true, laidKinds := [.data], laidTests := true, laidLooks := .later }
def PackShortUptoCardSaid : Prop := Claim7.holds Tryd.pinned (.plain (OpenSpec.upto packShortSpec)) packShortUptoCard

/-- THE SECOND FORM's CARD OF 'clewlaw16.PackLong'. -/
def packLongUptoCard : Claim7 := { stood := { row := packLongUptoRow, standIns := [], harness := (true, "a3eb9f9a666f88b6d22f964a7ee56cfa40864f40b775799e192c39148f4da826"), looks := false }, kinds := [], alts := [], laidByText := true, laidKinds := [.data], laidTests := true, laidLooks := .later }
def PackLongUptoCardSaid : Prop := Claim7.holds Tryd.pinned (.plain (OpenSpec.upto packLongSpec)) packLongUptoCard
end Rows
end Go.Proofs.YtamalmopbncibaaDoor
