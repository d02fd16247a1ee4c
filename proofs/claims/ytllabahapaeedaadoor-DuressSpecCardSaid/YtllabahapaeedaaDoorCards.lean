/-
  DERIVED. GIVEN WITH THE SEED: THE CARDS: each row of YtllabahapaeedaaDoorRows.lean that lists a variable, with what it lists TIED to the program's text (the seventh form; the later family's looks); each row that meets fmt, with fmt's text TOLD by the authors' own Lean function (tested against real Go, not proved from fmt's source: count such statements apart). THE CARD IS WHAT COUNTS. Prove the row's statement (the work); the ties are given (YtllabahapaeedaaDoorTie.lean); close each card by the builder's one call (the guide's Derived/Test/ToyasCard.lean, 'card_holds'). Laid BY PROGRAM, IN A SANDBOX (cutbox-door.mjs). By AI agents, Wed Nov 11 2026. No macro, syntax, notation, axiom, sorry.
-/
import Derived.Test.YtllabahapaeedaaDoorRows
import GoSem.ClaimSeven
namespace Go.Proofs.YtllabahapaeedaaDoor
namespace Rows

/-- THE TIED CARD OF 'signatorylaw47.DuressSpec'. -/
def duressSpecCard : Claim7 := { stood := { row := duressSpecRow, standIns := [], harness := (true, "6f99e2a90f72789ca819afda1f757bf26cf1587f3737581e858a1367a1ede0d4"), looks := false }, kinds := [], alts := [], laidByText := true, laidKinds := [.data, .data], laidTests := true, laidLooks := .later }
def DuressSpecCardSaid : Prop := Claim7.holds Tryd.pinned (.plain (OpenSpec.ofChange duressSpecSpec)) duressSpecCard

/-- THE TIED CARD OF 'signatorylaw47.DuressEitherSpec'. -/
def duressEitherSpecCard : Claim7 := { stood := { row := duressEitherSpecRow, standIns := [], harness := (true, "6f99e2a90f72789ca819afda1f757bf26cf1587f3737581e858a1367a1ede0d4"), looks := false }, kinds := [], alts := [], laidByText := true, laidKinds := [.data, .data], laidTests := true, laidLooks := .later }
def DuressEitherSpecCardSaid : Prop := Claim7.holds Tryd.pinned (.plain (OpenSpec.ofChange duressEitherSpecSpec)) duressEitherSpecCard

/-- THE TIED CARD OF 'signatorylaw47.DuressRead'. -/
def duressReadCard : Claim7 := { stood := { row := duressReadRow, standIns := [], harness := (true, "6f99e2a90f72789ca819afda1f757bf26cf1587f3737581e858a1367a1ede0d4"), looks := false }, kinds := [], alts := [], laidByText := true, laidKinds := [.data, .data], laidTests := true, laidLooks := .later }
def DuressReadCardSaid : Prop := Claim7.holds Tryd.pinned (.plain (OpenSpec.ofChange duressReadSpec)) duressReadCard

/-- THE TIED CARD OF 'signatorylaw47.DuressEither'. -/
def duressEitherCard : Claim7 := { stood := { row := duressEitherRow, standIns := [], harness := (true, "6f99e2a90f72789ca819afda1f757bf26cf1587f3737581e858a1367a1ede0d4"), looks := false }, kinds := [], alts := [], laidByText := true, laidKinds := [.data, .data], laidTests := true, laidLooks := .later }
def DuressEitherCardSaid : Prop := Claim7.holds Tryd.pinned (.plain (OpenSpec.ofChange duressEitherSpec)) duressEitherCard

/-- THE TIED CARD OF 'signatorylaw47.DuressTwo'. -/
def duressTwoCard : Claim7 := { stood := { row := duressTwoRow, standIns := [], harness := (true, "6f99e2a90f72789ca819afda1f757bf26cf1587f3737581e858a1367a1ede0d4"), looks := false }, kinds := [], alts := [], laidByText := true, laidKinds := [.data, .data], laidTests := true, laidLooks := .later }
def DuressTwoCardSaid : Prop := Claim7.holds Tryd.pinned (.plain (OpenSpec.ofChange duressTwoSpec)) duressTwoCard

/-- THE SECOND FORM's CARD OF 'signatorylaw47.DuressSpec'. -/
def duressSpecUptoCard : Claim7 := { stood := { row := duressSpecUptoRow, standIns := [], harness := (true, "6f99e2a90f72789ca819afda1f757bf26cf1587f3737581e858a1367a1ede0d4"), looks := false }, kinds := [], alts := [], laidByText := true, laidKinds := [.data, .data], laidTests := true, laidLooks := .later }
def DuressSpecUptoCardSaid : Prop := Claim7.holds Tryd.pinned (.plain (OpenSpec.upto duressSpecSpec)) duressSpecUptoCard

/-- THE SECOND FORM's CARD OF 'signatorylaw47.DuressEitherSpec'. -/
def duressEitherSpecUptoCard : Claim7 := { stood := { row := duressEitherSpecUptoRow, standIns := [], harness := (true, "6f99e2a90f72789ca819afda1f757bf26cf1587f3737581e858a1367a1ede0d4"), looks := false }, kinds := [], alts := [], laidByText := true, laidKinds := [.data, .data], laidTests := true, laidLooks := .later }
def DuressEitherSpecUptoCardSaid : Prop := Claim7.holds Tryd.pinned (.plain (OpenSpec.upto duressEitherSpecSpec)) duressEitherSpecUptoCard

/-- THE SECOND FORM's CARD OF 'signatorylaw47.DuressRead'. -/
def duressReadUptoCard : Claim7 := { stood := { row := duressReadUptoRow, standIns := [], harness := (true, "6f99e2a90f72789ca819afda1f757bf26cf1587f3737581e858a1367a1ede0d4"), looks := false }, kinds := [], alts := [], laidByText := true, laidKinds := [.data, .data], laidTests := true, laidLooks := .later }
def DuressReadUptoCardSaid : Prop := Claim7.holds Tryd.pinned (.plain (OpenSpec.upto duressReadSpec)) duressReadUptoCard

/-- THE SECOND FORM's CARD OF 'signatorylaw47.DuressEither'. -/
def duressEitherUptoCard : Claim7 := { stood := { row := duressEitherUptoRow, standIns := [], harness := (true, "6f99e2a90f72789ca819afda1f757bf26cf1587f3737581e858a1367a1ede0d4"), looks := false }, kinds := [], alts := [], laidByText := true, laidKinds := [.data, .data], laidTests := true, laidLooks := .later }
def DuressEitherUptoCardSaid : Prop := Claim7.holds Tryd.pinned (.plain (OpenSpec.upto duressEitherSpec)) duressEitherUptoCard

/-- THE SECOND FORM's CARD OF 'signatorylaw47.DuressTwo'. -/
def duressTwoUptoCard : Claim7 := { stood := { row := duressTwoUptoRow, standIns := [], harness := (true, "6f99e2a90f72789ca819afda1f757bf26cf1587f3737581e858a1367a1ede0d4"), looks := false }, kinds := [], alts := [], laidByText := true, laidKinds := [.data, .data], laidTests := true, laidLooks := .later }
def DuressTwoUptoCardSaid : Prop := Claim7.holds Tryd.pinned (.plain (OpenSpec.upto duressTwoSpec)) duressTwoUptoCard
end Rows
end Go.Proofs.YtllabahapaeedaaDoor
