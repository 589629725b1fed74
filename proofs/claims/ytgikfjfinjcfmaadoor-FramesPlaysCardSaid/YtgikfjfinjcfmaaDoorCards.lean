/-
  DERIVED. GIVEN WITH THE SEED: THE CARDS: each row of YtgikfjfinjcfmaaDoorRows.lean that lists a variable, with what it lists TIED to the program's text (the seventh form; the later family's looks); each row that meets fmt, with fmt's text TOLD by the authors' own Lean function (tested against real Go, not proved from fmt's source: count such statements apart). THE CARD IS WHAT COUNTS. Prove the row's statement (the work); the ties are given (YtgikfjfinjcfmaaDoorTie.lean); close each card by the builder's one call (the guide's Derived/Test/ToyasCard.lean, 'card_holds'). Laid BY PROGRAM, IN A SANDBOX (cutbox-door.mjs). By AI agents, Wed Nov 11 2026. No macro, syntax, notation, axiom, sorry.
-/
import Derived.Test.YtgikfjfinjcfmaaDoorRows
import GoSem.ClaimSeven
namespace Go.Proofs.YtgikfjfinjcfmaaDoor
namespace Rows

/-- THE TIED CARD OF 'hostellaw07.FramesNews'. -/
def framesNewsCard : Claim7 := { stood := { row := framesNewsRow, standIns := [], harness := (true, "c6002ff952e5294dcd206781f82b9bda28218f96d59cbecd80d221effbf0e418"), looks := false }, kinds := [], alts := [], laidByText := true, laidKinds := [.data], laidTests := true, laidLooks := .later }
def FramesNewsCardSaid : Prop := Claim7.holds Tryd.pinned (.plain (OpenSpec.ofChange framesNewsSpec)) framesNewsCard

/-- THE TIED CARD OF 'hostellaw07.FramesAll'. -/
def framesAllCard : Claim7 := { stood := { row := framesAllRow, standIns := [], harness := (true, "c6002ff952e5294dcd206781f82b9bda28218f96d59cbecd80d221effbf0e418"), looks := false }, kinds := [], alts := [], laidByText := true, laidKinds := [.data], laidTests := true, laidLooks := .later }
def FramesAllCardSaid : Prop := Claim7.holds Tryd.pinned (.plain (OpenSpec.ofChange framesAllSpec)) framesAllCard

/-- THE TIED CARD OF 'hostellaw07.FramesShares'. -/
def framesSharesCard : Claim7 := { stood := { row := framesSharesRow, standIns := [], harness := (true, "c6002ff952e5294dcd206781f82b9bda28218f96d59cbecd80d221effbf0e418"), looks := false }, kinds := [], alts := [], laidByText := true, laidKinds := [.data], laidTests := true, laidLooks := .later }
def FramesSharesCardSaid : Prop := Claim7.holds Tryd.pinned (.plain (OpenSpec.ofChange framesSharesSpec)) framesSharesCard

/-- THE TIED CARD OF 'hostellaw07.FramesPlays'. -/
def framesPlaysCard : Claim7 := { stood := { row := framesPlaysRow, standIns := [], harness := (true, "c6002ff952e5294dcd206781f82b9bda28218f96d59cbecd80d221effbf0e418"), looks := false }, kinds := [], alts := [], laidByText := true, laidKinds := [.data], laidTests := true, laidLooks := .later }
def FramesPlaysCardSaid : Prop := Claim7.holds Tryd.pinned (.plain (OpenSpec.ofChange framesPlaysSpec)) framesPlaysCard

/-- THE TIED CARD OF 'hostellaw07.FramesNil'. -/
def framesNilCard : Claim7 := { stood := { row := framesNilRow, standIns := [], harness := (true, "c6002ff952e5294dcd206781f82b9bda28218f96d59cbecd80d221effbf0e418"), looks := false }, kinds := [], alts := [], laidByText := true, laidKinds := [.data], laidTests := true, laidLooks := .later }
def FramesNilCardSaid : Prop := Claim7.holds Tryd.pinned (.plain (OpenSpec.ofChange framesNilSpec)) framesNilCard

/-- THE TIED CARD OF 'hostellaw07.FramesFresh'. -/
def framesFreshCard : Claim7 := { stood := { row := framesFreshRow, standIns := [], harness := (true, "c6002ff952e5294dcd206781f82b9bda28218f96d59cbecd80d221effbf0e418"), looks := false }, kinds := [], alts := [], laidByText := true, laidKinds := [.data], laidTests := true, laidLooks := .later }
def FramesFreshCardSaid : Prop := Claim7.holds Tryd.pinned (.plain (OpenSpec.ofChange framesFreshSpec)) framesFreshCard

/-- THE TIED CARD OF 'hostellaw07.FramesCopies'. -/
def framesCopiesCard : Claim7 := { stood := { row := framesCopiesRow, standIns := [], harness := (true, "c6002ff952e5294dcd206781f82b9bda28218f96d59cbecd80d221effbf0e418"), looks := false }, kinds := [], alts := [], laidByText := true, laidKinds := [.data], laidTests := true, laidLooks := .later }
def FramesCopiesCardSaid : Prop := Claim7.holds Tryd.pinned (.plain (OpenSpec.ofChange framesCopiesSpec)) framesCopiesCard

/-- THE SECOND FORM's CARD OF 'hostellaw07.FramesNews'. -/
def framesNewsUptoCard : Claim7 := { stood := { row := framesNewsUptoRow, standIns := [], harness := (true, "c6002ff952e5294dcd206781f82b9bda28218f96d59cbecd80d221effbf0e418"), looks := false }, kinds := [], alts := [], laidByText := true, laidKinds := [.data], laidTests := true, laidLooks := .later }
def FramesNewsUptoCardSaid : Prop := Claim7.holds Tryd.pinned (.plain (OpenSpec.upto framesNewsSpec)) framesNewsUptoCard

/-- THE SECOND FORM's CARD OF 'hostellaw07.FramesAll'. -/
def framesAllUptoCard : Claim7 := { stood := { row := framesAllUptoRow, standIns := [], harness := (true, "c6002ff952e5294dcd206781f82b9bda28218f96d59cbecd80d221effbf0e418"), looks := false }, kinds := [], alts := [], laidByText := true, laidKinds := [.data], laidTests := true, laidLooks := .later }
def FramesAllUptoCardSaid : Prop := Claim7.holds Tryd.pinned (.plain (OpenSpec.upto framesAllSpec)) framesAllUptoCard

/-- THE SECOND FORM's CARD OF 'hostellaw07.FramesShares'. -/
def framesSharesUptoCard : Claim7 := { stood := { row := framesSharesUptoRow, standIns := [], harness := (true, "c6002ff952e5294dcd206781f82b9bda28218f96d59cbecd80d221effbf0e418"), looks := false }, kinds := [], alts := [], laidByText := true, laidKinds := [.data], laidTests := true, laidLooks := .later }
def FramesSharesUptoCardSaid : Prop := Claim7.holds Tryd.pinned (.plain (OpenSpec.upto framesSharesSpec)) framesSharesUptoCard

/-- THE SECOND FORM's CARD OF 'hostellaw07.FramesPlays'. -/
def framesPlaysUptoCard : Claim7 := { stood := { row := framesPlaysUptoRow, standIns := [], harness := (true, "c6002ff952e5294dcd206781f82b9bda28218f96d59cbecd80d221effbf0e418"), looks := false }, kinds := [], alts := [], laidByText := true, laidKinds := [.data], laidTests := true, laidLooks := .later }
def FramesPlaysUptoCardSaid : Prop := Claim7.holds Tryd.pinned (.plain (OpenSpec.upto framesPlaysSpec)) framesPlaysUptoCard

/-- THE SECOND FORM's CARD OF 'hostellaw07.FramesNil'. -/
def framesNilUptoCard : Claim7 := { stood := { row := framesNilUptoRow, standIns := [], harness := (true, "c6002ff952e5294dcd206781f82b9bda28218f96d59cbecd80d221effbf0e418"), looks := false }, kinds := [], alts := [], laidByText := true, laidKinds := [.data], laidTests := true, laidLooks := .later }
def FramesNilUptoCardSaid : Prop := Claim7.holds Tryd.pinned (.plain (OpenSpec.upto framesNilSpec)) framesNilUptoCard

/-- THE SECOND FORM's CARD OF 'hostellaw07.FramesFresh'. -/
def framesFreshUptoCard : Claim7 := { stood := { row := framesFreshUptoRow, standIns := [], harness := (true, "c6002ff952e5294dcd206781f82b9bda28218f96d59cbecd80d221effbf0e418"), looks := false }, kinds := [], alts := [], laidByText := true, laidKinds := [.data], laidTests := true, laidLooks := .later }
def FramesFreshUptoCardSaid : Prop := Claim7.holds Tryd.pinned (.plain (OpenSpec.upto framesFreshSpec)) framesFreshUptoCard

/-- THE SECOND FORM's CARD OF 'hostellaw07.FramesCopies'. -/
def framesCopiesUptoCard : Claim7 := { stood := { row := framesCopiesUptoRow, standIns := [], harness := (true, "c6002ff952e5294dcd206781f82b9bda28218f96d59cbecd80d221effbf0e418"), looks := false }, kinds := [], alts := [], laidByText := true, laidKinds := [.data], laidTests := true, laidLooks := .later }
def FramesCopiesUptoCardSaid : Prop := Claim7.holds Tryd.pinned (.plain (OpenSpec.upto framesCopiesSpec)) framesCopiesUptoCard
end Rows
end Go.Proofs.YtgikfjfinjcfmaaDoor
