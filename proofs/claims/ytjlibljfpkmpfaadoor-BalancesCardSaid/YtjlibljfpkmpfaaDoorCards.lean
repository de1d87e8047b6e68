/-
  DERIVED. GIVEN WITH THE SEED: THE CARDS: each row of YtjlibljfpkmpfaaDoorRows.lean that lists a variable, with what it lists TIED to the program's text (the seventh form; the later family's looks); each row that meets fmt, with fmt's text TOLD by the authors' own Lean function (tested against real Go, not proved from fmt's source: count such statements apart). THE CARD IS WHAT COUNTS. Prove the row's statement (the work); the ties are given (YtjlibljfpkmpfaaDoorTie.lean); close each card by the builder's one call (the guide's Derived/Test/ToyasCard.lean, 'card_holds'). Laid BY PROGRAM, IN A SANDBOX (cutbox-door.mjs). By AI agents, Wed Nov 11 2026. No macro, syntax, notation, axiom, sorry.
-/
import Derived.Test.YtjlibljfpkmpfaaDoorRows
import GoSem.ClaimSeven
namespace Go.Proofs.YtjlibljfpkmpfaaDoor
namespace Rows

/-- THE TIED CARD OF 'encloselaw.Names'. -/
def namesCard : Claim7 := { stood := { row := namesRow, standIns := [], harness := (true, "25d9a104fbd91e063cb8d99d2579ff3a2000c2ffff9432c2351c46e8342c8f9d"), looks := true }, kinds := [], alts := [], laidByText := true, laidKinds := [.handle, .sentinel, .sentinel, .sentinel, .sentinel, .sentinel, .sentinel, .sentinel, .sentinel, .sentinel], laidTests := true, laidLooks := .later }
def NamesCardSaid : Prop := Claim7.holds Tryd.pinned (.plain (OpenSpec.ofChange namesSpec)) namesCard

/-- THE TIED CARD OF 'encloselaw.Finds'. -/
def findsCard : Claim7 := { stood := { row := findsRow, standIns := [], harness := (true, "25d9a104fbd91e063cb8d99d2579ff3a2000c2ffff9432c2351c46e8342c8f9d"), looks := true }, kinds := [], alts := [], laidByText := true, laidKinds := [.handle, .sentinel, .sentinel, .sentinel, .sentinel, .sentinel, .sentinel, .sentinel, .sentinel, .sentinel], laidTests := true, laidLooks := .later }
def FindsCardSaid : Prop := Claim7.holds Tryd.pinned (.plain (OpenSpec.ofChange findsSpec)) findsCard

/-- THE TIED CARD OF 'encloselaw.Knows'. -/
def knowsCard : Claim7 := { stood := { row := knowsRow, standIns := [], harness := (true, "25d9a104fbd91e063cb8d99d2579ff3a2000c2ffff9432c2351c46e8342c8f9d"), looks := true }, kinds := [], alts := [], laidByText := true, laidKinds := [.handle, .sentinel, .sentinel, .sentinel, .sentinel, .sentinel, .sentinel, .sentinel, .sentinel, .sentinel], laidTests := true, laidLooks := .later }
def KnowsCardSaid : Prop := Claim7.holds Tryd.pinned (.plain (OpenSpec.ofChange knowsSpec)) knowsCard

/-- THE TIED CARD OF 'encloselaw.Balances'. -/
def balancesCard : Claim7 := { stood := { row := balancesRow, standIns := [], harness := (true, "25d9a104fbd91e063cb8d99d2579ff3a2000c2ffff9432c2351c46e8342c8f9d"), looks := true }, kinds := [], alts := [], laidByText := true, laidKinds := [.handle, .sentinel, .sentinel, .sentinel, .sentinel, .sentinel, .sentinel, .sentinel, .sentinel, .sentinel], laidTests := true, laidLooks := .later }
def BalancesCardSaid : Prop := Claim7.holds Tryd.pinned (.plain (OpenSpec.ofChange balancesSpec)) balancesCard

/-- THE SECOND FORM's CARD OF 'encloselaw.Names'. -/
def namesUptoCard : Claim7 := { stood := { row := namesUptoRow, standIns := [], harness := (true, "25d9a104fbd91e063cb8d99d2579ff3a2000c2ffff9432c2351c46e8342c8f9d"), looks := true }, kinds := [], alts := [], laidByText := true, laidKinds := [.handle, .sentinel, .sentinel, .sentinel, .sentinel, .sentinel, .sentinel, .sentinel, .sentinel, .sentinel], laidTests := true, laidLooks := .later }
def NamesUptoCardSaid : Prop := Claim7.holds Tryd.pinned (.plain (OpenSpec.upto namesSpec)) namesUptoCard

/-- THE SECOND FORM's CARD OF 'encloselaw.Finds'. -/
def findsUptoCard : Claim7 := { stood := { row := findsUptoRow, standIns := [], harness := (true, "25d9a104fbd91e063cb8d99d2579ff3a2000c2ffff9432c2351c46e8342c8f9d"), looks := true }, kinds := [], alts := [], laidByText := true, laidKinds := [.handle, .sentinel, .sentinel, .sentinel, .sentinel, .sentinel, .sentinel, .sentinel, .sentinel, .sentinel], laidTests := true, laidLooks := .later }
def FindsUptoCardSaid : Prop := Claim7.holds Tryd.pinned (.plain (OpenSpec.upto findsSpec)) findsUptoCard

/-- THE SECOND FORM's CARD OF 'encloselaw.Knows'. -/
def knowsUptoCard : Claim7 := { stood := { row := knowsUptoRow, standIns := [], harness := (true, "25d9a104fbd91e063cb8d99d2579ff3a2000c2ffff9432c2351c46e8342c8f9d"), looks := true }, kinds := [], alts := [], laidByText := true, laidKinds := [.handle, .sentinel, .sentinel, .sentinel, .sentinel, .sentinel, .sentinel, .sentinel, .sentinel, .sentinel], laidTests := true, laidLooks := .later }
def KnowsUptoCardSaid : Prop := Claim7.holds Tryd.pinned (.plain (OpenSpec.upto knowsSpec)) knowsUptoCard

/-- THE SECOND FORM's CARD OF 'encloselaw.Balances'. -/
def balancesUptoCard : Claim7 := { stood := { row := balancesUptoRow, standIns := [], harness := (true, "25d9a104fbd91e063cb8d99d2579ff3a2000c2ffff9432c2351c46e8342c8f9d"), looks := true }, kinds := [], alts := [], laidByText := true, laidKinds := [.handle, .sentinel, .sentinel, .sentinel, .sentinel, .sentinel, .sentinel, .sentinel, .sentinel, .sentinel], laidTests := true, laidLooks := .later }
def BalancesUptoCardSaid : Prop := Claim7.holds Tryd.pinned (.plain (OpenSpec.upto balancesSpec)) balancesUptoCard
end Rows
end Go.Proofs.YtjlibljfpkmpfaaDoor
