/-
  DERIVED. GIVEN WITH THE SEED: THE CARDS: each row of YtjlibljfpkmpfaaGreatDoorRows.lean that lists a variable, with what it lists TIED to the program's text (the seventh form; the later family's looks); each row that meets fmt, with fmt's text TOLD by the authors' own Lean function (tested against real Go, not proved from fmt's source: count such statements apart). THE CARD IS WHAT COUNTS. Prove the row's statement (the work); the ties are given (YtjlibljfpkmpfaaGreatDoorTie.lean); close each card by the builder's one call (the guide's Derived/Test/ToyasCard.lean, 'card_holds'). Laid BY PROGRAM, IN A SANDBOX (cutbox-door.mjs). By AI agents, Wed Nov 11 2026. No macro, syntax, notation, axiom, sorry.
-/
import Derived.Test.YtjlibljfpkmpfaaGreatDoorRows
import GoSem.ClaimSeven
namespace Go.Proofs.YtjlibljfpkmpfaaGreatDoor
namespace Rows

/-- THE TIED CARD OF 'encloselaw.Makes'. -/
def makesCard : Claim7 := { stood := { row := makesRow, standIns := [], harness := (true, "1a8576e4dd1d4b682b02b7bcb7653478cda04a0162a9b679ae5f02fa7431419d"), looks := true }, kinds := [], alts := [], laidByText := true, laidKinds := [.handle, .sentinel, .sentinel, .sentinel, .sentinel, .sentinel, .sentinel, .sentinel, .sentinel, .sentinel, .funcs], laidTests := true, laidLooks := .later }
def MakesCardSaid : Prop := Claim7.holds Tryz.pinned (.plain (OpenSpec.ofChange makesSpec)) makesCard

/-- THE TIED CARD OF 'encloselaw.Ops'. -/
def opsCard : Claim7 := { stood := { row := opsRow, standIns := [], harness := (true, "1a8576e4dd1d4b682b02b7bcb7653478cda04a0162a9b679ae5f02fa7431419d"), looks := true }, kinds := [], alts := [], laidByText := true, laidKinds := [.handle, .sentinel, .sentinel, .sentinel, .sentinel, .sentinel, .sentinel, .sentinel, .sentinel, .sentinel, .funcs], laidTests := true, laidLooks := .later }
def OpsCardSaid : Prop := Claim7.holds Tryz.pinned (.plain (OpenSpec.ofChange opsSpec)) opsCard

/-- THE TIED CARD OF 'encloselaw.Applies'. -/
def appliesCard : Claim7 := { stood := { row := appliesRow, standIns := [], harness := (true, "1a8576e4dd1d4b682b02b7bcb7653478cda04a0162a9b679ae5f02fa7431419d"), looks := true }, kinds := [], alts := [], laidByText := true, laidKinds := [.handle, .sentinel, .sentinel, .sentinel, .sentinel, .sentinel, .sentinel, .sentinel, .sentinel, .sentinel, .funcs], laidTests := true, laidLooks := .later }
def AppliesCardSaid : Prop := Claim7.holds Tryz.pinned (.plain (OpenSpec.ofChange appliesSpec)) appliesCard

/-- THE TIED CARD OF 'encloselaw.Exacts'. -/
def exactsCard : Claim7 := { stood := { row := exactsRow, standIns := [], harness := (true, "1a8576e4dd1d4b682b02b7bcb7653478cda04a0162a9b679ae5f02fa7431419d"), looks := true }, kinds := [], alts := [], laidByText := true, laidKinds := [.handle, .sentinel, .sentinel, .sentinel, .sentinel, .sentinel, .sentinel, .sentinel, .sentinel, .sentinel, .funcs], laidTests := true, laidLooks := .later }
def ExactsCardSaid : Prop := Claim7.holds Tryz.pinned (.plain (OpenSpec.ofChange exactsSpec)) exactsCard

/-- THE TIED CARD OF 'encloselaw.Evals'. -/
def evalsCard : Claim7 := { stood := { row := evalsRow, standIns := [], harness := (true, "1a8576e4dd1d4b682b02b7bcb7653478cda04a0162a9b679ae5f02fa7431419d"), looks := true }, kinds := [], alts := [], laidByText := true, laidKinds := [.handle, .sentinel, .sentinel, .sentinel, .sentinel, .sentinel, .sentinel, .sentinel, .sentinel, .sentinel, .funcs], laidTests := true, laidLooks := .later }
def EvalsCardSaid : Prop := Claim7.holds Tryz.pinned (.plain (OpenSpec.ofChange evalsSpec)) evalsCard

/-- THE TIED CARD OF 'encloselaw.Pieces'. -/
def piecesCard : Claim7 := { stood := { row := piecesRow, standIns := [], harness := (true, "1a8576e4dd1d4b682b02b7bcb7653478cda04a0162a9b679ae5f02fa7431419d"), looks := true }, kinds := [], alts := [], laidByText := true, laidKinds := [.handle, .sentinel, .sentinel, .sentinel, .sentinel, .sentinel, .sentinel, .sentinel, .sentinel, .sentinel, .funcs], laidTests := true, laidLooks := .later }
def PiecesCardSaid : Prop := Claim7.holds Tryz.pinned (.plain (OpenSpec.ofChange piecesSpec)) piecesCard

/-- THE TIED CARD OF 'encloselaw.Solves'. -/
def solvesCard : Claim7 := { stood := { row := solvesRow, standIns := [], harness := (true, "1a8576e4dd1d4b682b02b7bcb7653478cda04a0162a9b679ae5f02fa7431419d"), looks := true }, kinds := [], alts := [], laidByText := true, laidKinds := [.handle, .sentinel, .sentinel, .sentinel, .sentinel, .sentinel, .sentinel, .sentinel, .sentinel, .sentinel, .funcs], laidTests := true, laidLooks := .later }
def SolvesCardSaid : Prop := Claim7.holds Tryz.pinned (.plain (OpenSpec.ofChange solvesSpec)) solvesCard

/-- THE TIED CARD OF 'encloselaw.All'. -/
def allCard : Claim7 := { stood := { row := allRow, standIns := [], harness := (true, "1a8576e4dd1d4b682b02b7bcb7653478cda04a0162a9b679ae5f02fa7431419d"), looks := true }, kinds := [], alts := [], laidByText := true, laidKinds := [.handle, .sentinel, .sentinel, .sentinel, .sentinel, .sentinel, .sentinel, .sentinel, .sentinel, .sentinel, .funcs], laidTests := true, laidLooks := .later }
def AllCardSaid : Prop := Claim7.holds Tryz.pinned (.plain (OpenSpec.ofChange allSpec)) allCard

/-- THE SECOND FORM's CARD OF 'encloselaw.Makes'. -/
def makesUptoCard : Claim7 := { stood := { row := makesUptoRow, standIns := [], harness := (true, "1a8576e4dd1d4b682b02b7bcb7653478cda04a0162a9b679ae5f02fa7431419d"), looks := true }, kinds := [], alts := [], laidByText := true, laidKinds := [.handle, .sentinel, .sentinel, .sentinel, .sentinel, .sentinel, .sentinel, .sentinel, .sentinel, .sentinel, .funcs], laidTests := true, laidLooks := .later }
def MakesUptoCardSaid : Prop := Claim7.holds Tryz.pinned (.plain (OpenSpec.upto makesSpec)) makesUptoCard

/-- THE SECOND FORM's CARD OF 'encloselaw.Ops'. -/
def opsUptoCard : Claim7 := { stood := { row := opsUptoRow, standIns := [], harness := (true, "1a8576e4dd1d4b682b02b7bcb7653478cda04a0162a9b679ae5f02fa7431419d"), looks := true }, kinds := [], alts := [], laidByText := true, laidKinds := [.handle, .sentinel, .sentinel, .sentinel, .sentinel, .sentinel, .sentinel, .sentinel, .sentinel, .sentinel, .funcs], laidTests := true, laidLooks := .later }
def OpsUptoCardSaid : Prop := Claim7.holds Tryz.pinned (.plain (OpenSpec.upto opsSpec)) opsUptoCard

/-- THE SECOND FORM's CARD OF 'encloselaw.Applies'. -/
def appliesUptoCard : Claim7 := { stood := { row := appliesUptoRow, standIns := [], harness := (true, "1a8576e4dd1d4b682b02b7bcb7653478cda04a0162a9b679ae5f02fa7431419d"), looks := true }, kinds := [], alts := [], laidByText := true, laidKinds := [.handle, .sentinel, .sentinel, .sentinel, .sentinel, .sentinel, .sentinel, .sentinel, .sentinel, .sentinel, .funcs], laidTests := true, laidLooks := .later }
def AppliesUptoCardSaid : Prop := Claim7.holds Tryz.pinned (.plain (OpenSpec.upto appliesSpec)) appliesUptoCard

/-- THE SECOND FORM's CARD OF 'encloselaw.Exacts'. -/
def exactsUptoCard : Claim7 := { stood := { row := exactsUptoRow, standIns := [], harness := (true, "1a8576e4dd1d4b682b02b7bcb7653478cda04a0162a9b679ae5f02fa7431419d"), looks := true }, kinds := [], alts := [], laidByText := true, laidKinds := [.handle, .sentinel, .sentinel, .sentinel, .sentinel, .sentinel, .sentinel, .sentinel, .sentinel, .sentinel, .funcs], laidTests := true, laidLooks := .later }
def ExactsUptoCardSaid : Prop := Claim7.holds Tryz.pinned (.plain (OpenSpec.upto exactsSpec)) exactsUptoCard

/-- THE SECOND FORM's CARD OF 'encloselaw.Evals'. -/
def evalsUptoCard : Claim7 := { stood := { row := evalsUptoRow, standIns := [], harness := (true, "1a8576e4dd1d4b682b02b7bcb7653478cda04a0162a9b679ae5f02fa7431419d"), looks := true }, kinds := [], alts := [], laidByText := true, laidKinds := [.handle, .sentinel, .sentinel, .sentinel, .sentinel, .sentinel, .sentinel, .sentinel, .sentinel, .sentinel, .funcs], laidTests := true, laidLooks := .later }
def EvalsUptoCardSaid : Prop := Claim7.holds Tryz.pinned (.plain (OpenSpec.upto evalsSpec)) evalsUptoCard

/-- THE SECOND FORM's CARD OF 'encloselaw.Pieces'. -/
def piecesUptoCard : Claim7 := { stood := { row := piecesUptoRow, standIns := [], harness := (true, "1a8576e4dd1d4b682b02b7bcb7653478cda04a0162a9b679ae5f02fa7431419d"), looks := true }, kinds := [], alts := [], laidByText := true, laidKinds := [.handle, .sentinel, .sentinel, .sentinel, .sentinel, .sentinel, .sentinel, .sentinel, .sentinel, .sentinel, .funcs], laidTests := true, laidLooks := .later }
def PiecesUptoCardSaid : Prop := Claim7.holds Tryz.pinned (.plain (OpenSpec.upto piecesSpec)) piecesUptoCard

/-- THE SECOND FORM's CARD OF 'encloselaw.Solves'. -/
def solvesUptoCard : Claim7 := { stood := { row := solvesUptoRow, standIns := [], harness := (true, "1a8576e4dd1d4b682b02b7bcb7653478cda04a0162a9b679ae5f02fa7431419d"), looks := true }, kinds := [], alts := [], laidByText := true, laidKinds := [.handle, .sentinel, .sentinel, .sentinel, .sentinel, .sentinel, .sentinel, .sentinel, .sentinel, .sentinel, .funcs], laidTests := true, laidLooks := .later }
def SolvesUptoCardSaid : Prop := Claim7.holds Tryz.pinned (.plain (OpenSpec.upto solvesSpec)) solvesUptoCard

/-- THE SECOND FORM's CARD OF 'encloselaw.All'. -/
def allUptoCard : Claim7 := { stood := { row := allUptoRow, standIns := [], harness := (true, "1a8576e4dd1d4b682b02b7bcb7653478cda04a0162a9b679ae5f02fa7431419d"), looks := true }, kinds := [], alts := [], laidByText := true, laidKinds := [.handle, .sentinel, .sentinel, .sentinel, .sentinel, .sentinel, .sentinel, .sentinel, .sentinel, .sentinel, .funcs], laidTests := true, laidLooks := .later }
def AllUptoCardSaid : Prop := Claim7.holds Tryz.pinned (.plain (OpenSpec.upto allSpec)) allUptoCard
end Rows
end Go.Proofs.YtjlibljfpkmpfaaGreatDoor
