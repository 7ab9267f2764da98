/-
  DERIVED. GIVEN WITH THE SEED: THE CARDS: each row of YtcgcoblecpbgbaaDoorRows.lean that lists a variable, with what it lists TIED to the program's text (the seventh form; the later family's looks); each row that meets fmt, with fmt's text TOLD by the authors' own Lean function (tested against real Go, not proved from fmt's source: count such statements apart). THE CARD IS WHAT COUNTS. Prove the row's statement (the work); the ties are given (YtcgcoblecpbgbaaDoorTie.lean); close each card by the builder's one call (the guide's Derived/Test/ToyasCard.lean, 'card_holds'). Laid BY PROGRAM, IN A SANDBOX (cutbox-door.mjs). By AI agents, Wed Nov 11 2026. No macro, syntax, notation, axiom, sorry.
-/
import Derived.Test.YtcgcoblecpbgbaaDoorRows
import GoSem.ClaimSeven
namespace Go.Proofs.YtcgcoblecpbgbaaDoor
namespace Rows

/-- THE TIED CARD OF 'clewlaw10.CapsTell'. -/
def capsTellCard : Claim7 := { stood := { row := capsTellRow, standIns := [], harness := (true, "18fa17254a9271099b9c7b0d7c3b78b910415b8da0da5f98d13cc41ebbcfb50d"), looks := false }, kinds := [], alts := [], laidByText := true, laidKinds := [.data, .data, .data], laidTests := true, laidLooks := .later }
def CapsTellCardSaid : Prop := Claim7.holds Tryd.pinned (.plain (OpenSpec.ofChange capsTellSpec)) capsTellCard

/-- THE TIED CARD OF 'clewlaw10.CapsSets'. -/
def capsSetsCard : Claim7 := { stood := { row := capsSetsRow, standIns := [], harness := (true, "18fa17254a9271099b9c7b0d7c3b78b910415b8da0da5f98d13cc41ebbcfb50d"), looks := false }, kinds := [], alts := [], laidByText := true, laidKinds := [.data, .data, .data], laidTests := true, laidLooks := .later }
def CapsSetsCardSaid : Prop := Claim7.holds Tryd.pinned (.plain (OpenSpec.ofChange capsSetsSpec)) capsSetsCard

/-- THE TIED CARD OF 'clewlaw10.CapsAgain'. -/
def capsAgainCard : Claim7 := { stood := { row := capsAgainRow, standIns := [], harness := (true, "18fa17254a9271099b9c7b0d7c3b78b910415b8da0da5f98d13cc41ebbcfb50d"), looks := false }, kinds := [], alts := [], laidByText := true, laidKinds := [.data, .data, .data], laidTests := true, laidLooks := .later }
def CapsAgainCardSaid : Prop := Claim7.holds Tryd.pinned (.plain (OpenSpec.ofChange capsAgainSpec)) capsAgainCard

/-- THE TIED CARD OF 'clewlaw10.CapsOrder'. -/
def capsOrderCard : Claim7 := { stood := { row := capsOrderRow, standIns := [], harness := (true, "18fa17254a9271099b9c7b0d7c3b78b910415b8da0da5f98d13cc41ebbcfb50d"), looks := false }, kinds := [], alts := [], laidByText := true, laidKinds := [.data, .data, .data], laidTests := true, laidLooks := .later }
def CapsOrderCardSaid : Prop := Claim7.holds Tryd.pinned (.plain (OpenSpec.ofChange capsOrderSpec)) capsOrderCard

/-- THE TIED CARD OF 'clewlaw10.CapsShows'. -/
def capsShowsCard : Claim7 := { stood := { row := capsShowsRow, standIns := [], harness := (true, "18fa17254a9271099b9c7b0d7c3b78b910415b8da0da5f98d13cc41ebbcfb50d"), looks := false }, kinds := [], alts := [], laidByText := true, laidKinds := [.data, .data, .data], laidTests := true, laidLooks := .later }
def CapsShowsCardSaid : Prop := Claim7.holds Tryd.pinned (.plain (OpenSpec.ofChange capsShowsSpec)) capsShowsCard

/-- THE SECOND FORM's CARD OF 'clewlaw10.CapsTell'. -/
def capsTellUptoCard : Claim7 := { stood := { row := capsTellUptoRow, standIns := [], harness := (true, "18fa17254a9271099b9c7b0d7c3b78b910415b8da0da5f98d13cc41ebbcfb50d"), looks := false }, kinds := [], alts := [], laidByText := true, laidKinds := [.data, .data, .data], laidTests := true, laidLooks := .later }
def CapsTellUptoCardSaid : Prop := Claim7.holds Tryd.pinned (.plain (OpenSpec.upto capsTellSpec)) capsTellUptoCard

/-- THE SECOND FORM's CARD OF 'clewlaw10.CapsSets'. -/
def capsSetsUptoCard : Claim7 := { stood := { row := capsSetsUptoRow, standIns := [], harness := (true, "18fa17254a9271099b9c7b0d7c3b78b910415b8da0da5f98d13cc41ebbcfb50d"), looks := false }, kinds := [], alts := [], laidByText := true, laidKinds := [.data, .data, .data], laidTests := true, laidLooks := .later }
def CapsSetsUptoCardSaid : Prop := Claim7.holds Tryd.pinned (.plain (OpenSpec.upto capsSetsSpec)) capsSetsUptoCard

/-- THE SECOND FORM's CARD OF 'clewlaw10.CapsAgain'. -/
def capsAgainUptoCard : Claim7 := { stood := { row := capsAgainUptoRow, standIns := [], harness := (true, "18fa17254a9271099b9c7b0d7c3b78b910415b8da0da5f98d13cc41ebbcfb50d"), looks := false }, kinds := [], alts := [], laidByText := true, laidKinds := [.data, .data, .data], laidTests := true, laidLooks := .later }
def CapsAgainUptoCardSaid : Prop := Claim7.holds Tryd.pinned (.plain (OpenSpec.upto capsAgainSpec)) capsAgainUptoCard

/-- THE SECOND FORM's CARD OF 'clewlaw10.CapsOrder'. -/
def capsOrderUptoCard : Claim7 := { stood := { row := capsOrderUptoRow, standIns := [], harness := (true, "18fa17254a9271099b9c7b0d7c3b78b910415b8da0da5f98d13cc41ebbcfb50d"), looks := false }, kinds := [], alts := [], laidByText := true, laidKinds := [.data, .data, .data], laidTests := true, laidLooks := .later }
def CapsOrderUptoCardSaid : Prop := Claim7.holds Tryd.pinned (.plain (OpenSpec.upto capsOrderSpec)) capsOrderUptoCard

/-- THE SECOND FORM's CARD OF 'clewlaw10.CapsShows'. -/
def capsShowsUptoCard : Claim7 := { stood := { row := capsShowsUptoRow, standIns := [], harness := (true, "18fa17254a9271099b9c7b0d7c3b78b910415b8da0da5f98d13cc41ebbcfb50d"), looks := false }, kinds := [], alts := [], laidByText := true, laidKinds := [.data, .data, .data], laidTests := true, laidLooks := .later }
def CapsShowsUptoCardSaid : Prop := Claim7.holds Tryd.pinned (.plain (OpenSpec.upto capsShowsSpec)) capsShowsUptoCard
end Rows
end Go.Proofs.YtcgcoblecpbgbaaDoor
