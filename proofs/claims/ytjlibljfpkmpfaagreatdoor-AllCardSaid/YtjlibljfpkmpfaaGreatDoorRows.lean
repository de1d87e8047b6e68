/-
  NARROWER THAN 'FOR EVERY INPUT', by the rows' own cells (each row's printed sentence says how): Makes: laid · Ops: laid · Applies: laid · Exacts: laid · Evals: laid · Pieces: laid · Solves: laid · All: laid.
  DERIVED. THE GIVEN ROWS OF THIS SEAT. 8 by the template 'for every input the law returns true; each argument reads behind the call as it read before'; 0 by the template 'total and deterministic' (their statements: YtjlibljfpkmpfaaGreatDoorTotals.lean).
  GIVEN WITH THE SEED: the statements are not yours to turn. If you find one false, say at which input.
  Laid BY PROGRAM, IN A SANDBOX (cutbox-rows.mjs): the forced cells as the released guide's own fill.sh prints them over the translation 1c2d30931de2a144… (all of the seat's roots in one cut). By AI agents, Wed Nov 11 2026. No macro, syntax, notation, axiom, sorry.
-/
import Derived.Test.YtjlibljfpkmpfaaGreatDoorChecked
import GoSem.Claim
import GoSem.ClaimJoined
import GoSem.ClaimMapViews
import Derived.JoinedTies
import Derived.KernelRfl
namespace Go.Proofs.YtjlibljfpkmpfaaGreatDoor
/- THE CELL 'sum', in the pinned program and in every row, IS THE sha256 OF THE DUMP (.gsa) THAT YtjlibljfpkmpfaaGreatDoorProg.lean LOADS. Nothing in Lean hashes anything: it is a label: what it is worth is what the hold of that sum in a sandbox is worth. -/
noncomputable def Tryz.pinned : Pinned := { name := "ytjlibljfpkmpfaagreatdoor", sum := "1c2d30931de2a1449e2cb0a851ec92c87f353300f0c03529b9f1feab65ffb4f5", checked := Tryz.checked }
namespace Rows
def none {H : Type} : Left H := { results := [], args := [] }

/- WHAT THE LISTED PACKAGE-LEVEL VARIABLES READ AS WHEN THE CALL BEGINS. Each datum BY PROGRAM (the guide's laid-datum.mjs) off the statement by which the dump's own 'gosem.cut.vars' lays the variable. In a bare row this is a premise. The card (YtjlibljfpkmpfaaGreatDoorCards.lean) ties it to the program's text. -/
def laid_errors_errorType {H : Type} : DataW H := .iface "internal/reflectlite.rtype" (.agg [.ptr (.lit (.string [101, 114, 114, 111, 114]))])
def laid_enclose_enclose_ErrFloat {H : Type} : DataW H := .iface "*errors.errorString" (.ptr (.agg [.lit (.string [110, 111, 32, 112, 108, 97, 105, 110, 32, 102, 108, 111, 97, 116])]))
def laid_enclose_enclose_ErrOrder {H : Type} : DataW H := .iface "*errors.errorString" (.ptr (.agg [.lit (.string [101, 110, 100, 115, 32, 105, 110, 32, 116, 104, 101, 32, 119, 114, 111, 110, 103, 32, 111, 114, 100, 101, 114])]))
def laid_enclose_enclose_ErrRange {H : Type} : DataW H := .iface "*errors.errorString" (.ptr (.agg [.lit (.string [111, 117, 116, 32, 111, 102, 32, 114, 97, 110, 103, 101])]))
def laid_enclose_enclose_ErrZero {H : Type} : DataW H := .iface "*errors.errorString" (.ptr (.agg [.lit (.string [100, 105, 118, 105, 115, 105, 111, 110, 32, 98, 121, 32, 119, 104, 97, 116, 32, 104, 111, 108, 100, 115, 32, 48])]))
def laid_enclose_enclose_ErrNegative {H : Type} : DataW H := .iface "*errors.errorString" (.ptr (.agg [.lit (.string [114, 111, 111, 116, 32, 111, 102, 32, 119, 104, 97, 116, 32, 105, 115, 32, 98, 101, 108, 111, 119, 32, 48])]))
def laid_enclose_enclose_ErrEmpty {H : Type} : DataW H := .iface "*errors.errorString" (.ptr (.agg [.lit (.string [110, 111, 116, 104, 105, 110, 103, 32, 105, 110, 32, 99, 111, 109, 109, 111, 110])]))
def laid_enclose_enclose_ErrName {H : Type} : DataW H := .iface "*errors.errorString" (.ptr (.agg [.lit (.string [110, 111, 32, 115, 117, 99, 104, 32, 111, 112, 101, 114, 97, 116, 105, 111, 110])]))
def laid_enclose_enclose_ErrShape {H : Type} : DataW H := .iface "*errors.errorString" (.ptr (.agg [.lit (.string [119, 114, 111, 110, 103, 32, 115, 104, 97, 112, 101])]))
def laid_enclose_enclose_ErrSure {H : Type} : DataW H := .iface "*errors.errorString" (.ptr (.agg [.lit (.string [110, 111, 116, 32, 115, 117, 114, 101, 32, 111, 102, 32, 97, 110, 32, 97, 110, 115, 119, 101, 114])]))
def laid_enclose_enclose_table {H : Type} : DataW H := .iface "func table" (.slice [.agg [.lit (.string [43]), .iface "func" (.lit (.string [40, 101, 110, 99, 108, 111, 115, 101, 47, 101, 110, 99, 108, 111, 115, 101, 46, 73, 110, 116, 101, 114, 118, 97, 108, 41, 46, 65, 100, 100]))], .agg [.lit (.string [45]), .iface "func" (.lit (.string [40, 101, 110, 99, 108, 111, 115, 101, 47, 101, 110, 99, 108, 111, 115, 101, 46, 73, 110, 116, 101, 114, 118, 97, 108, 41, 46, 83, 117, 98]))], .agg [.lit (.string [42]), .iface "func" (.lit (.string [40, 101, 110, 99, 108, 111, 115, 101, 47, 101, 110, 99, 108, 111, 115, 101, 46, 73, 110, 116, 101, 114, 118, 97, 108, 41, 46, 77, 117, 108]))], .agg [.lit (.string [47]), .iface "func" (.lit (.string [40, 101, 110, 99, 108, 111, 115, 101, 47, 101, 110, 99, 108, 111, 115, 101, 46, 73, 110, 116, 101, 114, 118, 97, 108, 41, 46, 68, 105, 118]))], .agg [.lit (.string [109, 101, 101, 116]), .iface "func" (.lit (.string [40, 101, 110, 99, 108, 111, 115, 101, 47, 101, 110, 99, 108, 111, 115, 101, 46, 73, 110, 116, 101, 114, 118, 97, 108, 41, 46, 77, 101, 101, 116]))], .agg [.lit (.string [104, 117, 108, 108]), .iface "func" (.lit (.string [101, 110, 99, 108, 111, 115, 101, 47, 101, 110, 99, 108, 111, 115, 101, 46, 116, 97, 98, 108, 101, 36, 49]))]] [])

/-- 'encloselaw.Makes': WHATEVER THE INPUT: true; the input reads as it did. -/
def makesSpec : ChangeSpec := { name := "makes", fn := fun _ => fun
  | [d] => { results := [.lit (.bool true)], args := [d] }
  | _ => none }
def makesRow : OpenClaim := { program := "ytjlibljfpkmpfaagreatdoor", sum := "1c2d30931de2a1449e2cb0a851ec92c87f353300f0c03529b9f1feab65ffb4f5", func := "enclose/encloselaw.Makes", spec := "makes", inPlace := ["math.Float64frombits", "math.Float64bits", "internal/reflectlite.ValueOf", "(internal/reflectlite.Value).Type", "(internal/reflectlite.Value).IsNil", "internal/reflectlite.TypeOf", "(internal/reflectlite.Value).Elem", "(internal/reflectlite.Value).Set", "math.FMA", "math.sqrt"], unfollowed := true, recurses := true, named := ["enclose/enclose.ErrFloat", "enclose/enclose.ErrOrder", "enclose/enclose.ErrRange", "enclose/enclose.ErrZero", "enclose/enclose.ErrNegative", "enclose/enclose.ErrEmpty", "enclose/enclose.ErrName", "enclose/enclose.ErrShape", "enclose/enclose.ErrSure", "errors.errorType", "enclose/enclose.table"], apart := false, laid := [("errors.errorType", laid_errors_errorType), ("enclose/enclose.ErrFloat", laid_enclose_enclose_ErrFloat), ("enclose/enclose.ErrOrder", laid_enclose_enclose_ErrOrder), ("enclose/enclose.ErrRange", laid_enclose_enclose_ErrRange), ("enclose/enclose.ErrZero", laid_enclose_enclose_ErrZero), ("enclose/enclose.ErrNegative", laid_enclose_enclose_ErrNegative), ("enclose/enclose.ErrEmpty", laid_enclose_enclose_ErrEmpty), ("enclose/enclose.ErrName", laid_enclose_enclose_ErrName), ("enclose/enclose.ErrShape", laid_enclose_enclose_ErrShape), ("enclose/enclose.ErrSure", laid_enclose_enclose_ErrSure), ("enclose/enclose.table", laid_enclose_enclose_table)] }
def MakesSaid : Prop := makesRow.holds Tryz.pinned (OpenSpec.ofChange makesSpec)

/-- ITS FALSE NEIGHBOUR: 'it returns false'. Refute it at one input. -/
def makesWrong : ChangeSpec := { name := "makes", fn := fun _ => fun
  | [d] => { results := [.lit (.bool false)], args := [d] }
  | _ => none }
def MakesWrongFalsely : Prop := makesRow.holds Tryz.pinned (OpenSpec.ofChange makesWrong)

/-- 'encloselaw.Ops': WHATEVER THE INPUT: true; the input reads as it did. -/
def opsSpec : ChangeSpec := { name := "ops", fn := fun _ => fun
  | [d] => { results := [.lit (.bool true)], args := [d] }
  | _ => none }
def opsRow : OpenClaim := { program := "ytjlibljfpkmpfaagreatdoor", sum := "1c2d30931de2a1449e2cb0a851ec92c87f353300f0c03529b9f1feab65ffb4f5", func := "enclose/encloselaw.Ops", spec := "ops", inPlace := ["math.Float64frombits", "math.Float64bits", "internal/reflectlite.ValueOf", "(internal/reflectlite.Value).Type", "(internal/reflectlite.Value).IsNil", "internal/reflectlite.TypeOf", "(internal/reflectlite.Value).Elem", "(internal/reflectlite.Value).Set", "math.FMA", "math.sqrt"], unfollowed := true, recurses := true, named := ["enclose/enclose.ErrFloat", "enclose/enclose.ErrOrder", "enclose/enclose.ErrRange", "enclose/enclose.ErrZero", "enclose/enclose.ErrNegative", "enclose/enclose.ErrEmpty", "enclose/enclose.ErrName", "enclose/enclose.ErrShape", "enclose/enclose.ErrSure", "errors.errorType", "enclose/enclose.table"], apart := false, laid := [("errors.errorType", laid_errors_errorType), ("enclose/enclose.ErrFloat", laid_enclose_enclose_ErrFloat), ("enclose/enclose.ErrOrder", laid_enclose_enclose_ErrOrder), ("enclose/enclose.ErrRange", laid_enclose_enclose_ErrRange), ("enclose/enclose.ErrZero", laid_enclose_enclose_ErrZero), ("enclose/enclose.ErrNegative", laid_enclose_enclose_ErrNegative), ("enclose/enclose.ErrEmpty", laid_enclose_enclose_ErrEmpty), ("enclose/enclose.ErrName", laid_enclose_enclose_ErrName), ("enclose/enclose.ErrShape", laid_enclose_enclose_ErrShape), ("enclose/enclose.ErrSure", laid_enclose_enclose_ErrSure), ("enclose/enclose.table", laid_enclose_enclose_table)] }
def OpsSaid : Prop := opsRow.holds Tryz.pinned (OpenSpec.ofChange opsSpec)

/-- ITS FALSE NEIGHBOUR: 'it returns false'. Refute it at one input. -/
def opsWrong : ChangeSpec := { name := "ops", fn := fun _ => fun
  | [d] => { results := [.lit (.bool false)], args := [d] }
  | _ => none }
def OpsWrongFalsely : Prop := opsRow.holds Tryz.pinned (OpenSpec.ofChange opsWrong)

/-- 'encloselaw.Applies': WHATEVER THE INPUT: true; the input reads as it did. -/
def appliesSpec : ChangeSpec := { name := "applies", fn := fun _ => fun
  | [d] => { results := [.lit (.bool true)], args := [d] }
  | _ => none }
def appliesRow : OpenClaim := { program := "ytjlibljfpkmpfaagreatdoor", sum := "1c2d30931de2a1449e2cb0a851ec92c87f353300f0c03529b9f1feab65ffb4f5", func := "enclose/encloselaw.Applies", spec := "applies", inPlace := ["math.Float64frombits", "math.Float64bits", "internal/reflectlite.ValueOf", "(internal/reflectlite.Value).Type", "(internal/reflectlite.Value).IsNil", "internal/reflectlite.TypeOf", "(internal/reflectlite.Value).Elem", "(internal/reflectlite.Value).Set", "math.FMA", "math.sqrt"], unfollowed := true, recurses := true, named := ["enclose/enclose.ErrFloat", "enclose/enclose.ErrOrder", "enclose/enclose.ErrRange", "enclose/enclose.ErrZero", "enclose/enclose.ErrNegative", "enclose/enclose.ErrEmpty", "enclose/enclose.ErrName", "enclose/enclose.ErrShape", "enclose/enclose.ErrSure", "errors.errorType", "enclose/enclose.table"], apart := false, laid := [("errors.errorType", laid_errors_errorType), ("enclose/enclose.ErrFloat", laid_enclose_enclose_ErrFloat), ("enclose/enclose.ErrOrder", laid_enclose_enclose_ErrOrder), ("enclose/enclose.ErrRange", laid_enclose_enclose_ErrRange), ("enclose/enclose.ErrZero", laid_enclose_enclose_ErrZero), ("enclose/enclose.ErrNegative", laid_enclose_enclose_ErrNegative), ("enclose/enclose.ErrEmpty", laid_enclose_enclose_ErrEmpty), ("enclose/enclose.ErrName", laid_enclose_enclose_ErrName), ("enclose/enclose.ErrShape", laid_enclose_enclose_ErrShape), ("enclose/enclose.ErrSure", laid_enclose_enclose_ErrSure), ("enclose/enclose.table", laid_enclose_enclose_table)] }
def AppliesSaid : Prop := appliesRow.holds Tryz.pinned (OpenSpec.ofChange appliesSpec)

/-- ITS FALSE NEIGHBOUR: 'it returns false'. Refute it at one input. -/
def appliesWrong : ChangeSpec := { name := "applies", fn := fun _ => fun
  | [d] => { results := [.lit (.bool false)], args := [d] }
  | _ => none }
def AppliesWrongFalsely : Prop := appliesRow.holds Tryz.pinned (OpenSpec.ofChange appliesWrong)

/-- 'encloselaw.Exacts': WHATEVER THE INPUT: true; the input reads as it did. -/
def exactsSpec : ChangeSpec := { name := "exacts", fn := fun _ => fun
  | [d] => { results := [.lit (.bool true)], args := [d] }
  | _ => none }
def exactsRow : OpenClaim := { program := "ytjlibljfpkmpfaagreatdoor", sum := "1c2d30931de2a1449e2cb0a851ec92c87f353300f0c03529b9f1feab65ffb4f5", func := "enclose/encloselaw.Exacts", spec := "exacts", inPlace := ["math.Float64frombits", "math.Float64bits", "internal/reflectlite.ValueOf", "(internal/reflectlite.Value).Type", "(internal/reflectlite.Value).IsNil", "internal/reflectlite.TypeOf", "(internal/reflectlite.Value).Elem", "(internal/reflectlite.Value).Set", "math.FMA", "math.sqrt"], unfollowed := true, recurses := true, named := ["enclose/enclose.ErrFloat", "enclose/enclose.ErrOrder", "enclose/enclose.ErrRange", "enclose/enclose.ErrZero", "enclose/enclose.ErrNegative", "enclose/enclose.ErrEmpty", "enclose/enclose.ErrName", "enclose/enclose.ErrShape", "enclose/enclose.ErrSure", "errors.errorType", "enclose/enclose.table"], apart := false, laid := [("errors.errorType", laid_errors_errorType), ("enclose/enclose.ErrFloat", laid_enclose_enclose_ErrFloat), ("enclose/enclose.ErrOrder", laid_enclose_enclose_ErrOrder), ("enclose/enclose.ErrRange", laid_enclose_enclose_ErrRange), ("enclose/enclose.ErrZero", laid_enclose_enclose_ErrZero), ("enclose/enclose.ErrNegative", laid_enclose_enclose_ErrNegative), ("enclose/enclose.ErrEmpty", laid_enclose_enclose_ErrEmpty), ("enclose/enclose.ErrName", laid_enclose_enclose_ErrName), ("enclose/enclose.ErrShape", laid_enclose_enclose_ErrShape), ("enclose/enclose.ErrSure", laid_enclose_enclose_ErrSure), ("enclose/enclose.table", laid_enclose_enclose_table)] }
def ExactsSaid : Prop := exactsRow.holds Tryz.pinned (OpenSpec.ofChange exactsSpec)

/-- ITS FALSE NEIGHBOUR: 'it returns false'. Refute it at one input. -/
def exactsWrong : ChangeSpec := { name := "exacts", fn := fun _ => fun
  | [d] => { results := [.lit (.bool false)], args := [d] }
  | _ => none }
def ExactsWrongFalsely : Prop := exactsRow.holds Tryz.pinned (OpenSpec.ofChange exactsWrong)

/-- 'encloselaw.Evals': WHATEVER THE INPUT: true; the input reads as it did. -/
def evalsSpec : ChangeSpec := { name := "evals", fn := fun _ => fun
  | [d] => { results := [.lit (.bool true)], args := [d] }
  | _ => none }
def evalsRow : OpenClaim := { program := "ytjlibljfpkmpfaagreatdoor", sum := "1c2d30931de2a1449e2cb0a851ec92c87f353300f0c03529b9f1feab65ffb4f5", func := "enclose/encloselaw.Evals", spec := "evals", inPlace := ["math.Float64frombits", "math.Float64bits", "internal/reflectlite.ValueOf", "(internal/reflectlite.Value).Type", "(internal/reflectlite.Value).IsNil", "internal/reflectlite.TypeOf", "(internal/reflectlite.Value).Elem", "(internal/reflectlite.Value).Set", "math.FMA", "math.sqrt"], unfollowed := true, recurses := true, named := ["enclose/enclose.ErrFloat", "enclose/enclose.ErrOrder", "enclose/enclose.ErrRange", "enclose/enclose.ErrZero", "enclose/enclose.ErrNegative", "enclose/enclose.ErrEmpty", "enclose/enclose.ErrName", "enclose/enclose.ErrShape", "enclose/enclose.ErrSure", "errors.errorType", "enclose/enclose.table"], apart := false, laid := [("errors.errorType", laid_errors_errorType), ("enclose/enclose.ErrFloat", laid_enclose_enclose_ErrFloat), ("enclose/enclose.ErrOrder", laid_enclose_enclose_ErrOrder), ("enclose/enclose.ErrRange", laid_enclose_enclose_ErrRange), ("enclose/enclose.ErrZero", laid_enclose_enclose_ErrZero), ("enclose/enclose.ErrNegative", laid_enclose_enclose_ErrNegative), ("enclose/enclose.ErrEmpty", laid_enclose_enclose_ErrEmpty), ("enclose/enclose.ErrName", laid_enclose_enclose_ErrName), ("enclose/enclose.ErrShape", laid_enclose_enclose_ErrShape), ("enclose/enclose.ErrSure", laid_enclose_enclose_ErrSure), ("enclose/enclose.table", laid_enclose_enclose_table)] }
def EvalsSaid : Prop := evalsRow.holds Tryz.pinned (OpenSpec.ofChange evalsSpec)

/-- ITS FALSE NEIGHBOUR: 'it returns false'. Refute it at one input. -/
def evalsWrong : ChangeSpec := { name := "evals", fn := fun _ => fun
  | [d] => { results := [.lit (.bool false)], args := [d] }
  | _ => none }
def EvalsWrongFalsely : Prop := evalsRow.holds Tryz.pinned (OpenSpec.ofChange evalsWrong)

/-- 'encloselaw.Pieces': WHATEVER THE INPUT: true; the input reads as it did. -/
def piecesSpec : ChangeSpec := { name := "pieces", fn := fun _ => fun
  | [d] => { results := [.lit (.bool true)], args := [d] }
  | _ => none }
def piecesRow : OpenClaim := { program := "ytjlibljfpkmpfaagreatdoor", sum := "1c2d30931de2a1449e2cb0a851ec92c87f353300f0c03529b9f1feab65ffb4f5", func := "enclose/encloselaw.Pieces", spec := "pieces", inPlace := ["math.Float64frombits", "math.Float64bits", "internal/reflectlite.ValueOf", "(internal/reflectlite.Value).Type", "(internal/reflectlite.Value).IsNil", "internal/reflectlite.TypeOf", "(internal/reflectlite.Value).Elem", "(internal/reflectlite.Value).Set", "math.FMA", "math.sqrt"], unfollowed := true, recurses := true, named := ["enclose/enclose.ErrFloat", "enclose/enclose.ErrOrder", "enclose/enclose.ErrRange", "enclose/enclose.ErrZero", "enclose/enclose.ErrNegative", "enclose/enclose.ErrEmpty", "enclose/enclose.ErrName", "enclose/enclose.ErrShape", "enclose/enclose.ErrSure", "errors.errorType", "enclose/enclose.table"], apart := false, laid := [("errors.errorType", laid_errors_errorType), ("enclose/enclose.ErrFloat", laid_enclose_enclose_ErrFloat), ("enclose/enclose.ErrOrder", laid_enclose_enclose_ErrOrder), ("enclose/enclose.ErrRange", laid_enclose_enclose_ErrRange), ("enclose/enclose.ErrZero", laid_enclose_enclose_ErrZero), ("enclose/enclose.ErrNegative", laid_enclose_enclose_ErrNegative), ("enclose/enclose.ErrEmpty", laid_enclose_enclose_ErrEmpty), ("enclose/enclose.ErrName", laid_enclose_enclose_ErrName), ("enclose/enclose.ErrShape", laid_enclose_enclose_ErrShape), ("enclose/enclose.ErrSure", laid_enclose_enclose_ErrSure), ("enclose/enclose.table", laid_enclose_enclose_table)] }
def PiecesSaid : Prop := piecesRow.holds Tryz.pinned (OpenSpec.ofChange piecesSpec)

/-- ITS FALSE NEIGHBOUR: 'it returns false'. Refute it at one input. -/
def piecesWrong : ChangeSpec := { name := "pieces", fn := fun _ => fun
  | [d] => { results := [.lit (.bool false)], args := [d] }
  | _ => none }
def PiecesWrongFalsely : Prop := piecesRow.holds Tryz.pinned (OpenSpec.ofChange piecesWrong)

/-- 'encloselaw.Solves': WHATEVER THE INPUT: true; the input reads as it did. -/
def solvesSpec : ChangeSpec := { name := "solves", fn := fun _ => fun
  | [d] => { results := [.lit (.bool true)], args := [d] }
  | _ => none }
def solvesRow : OpenClaim := { program := "ytjlibljfpkmpfaagreatdoor", sum := "1c2d30931de2a1449e2cb0a851ec92c87f353300f0c03529b9f1feab65ffb4f5", func := "enclose/encloselaw.Solves", spec := "solves", inPlace := ["math.Float64frombits", "math.Float64bits", "internal/reflectlite.ValueOf", "(internal/reflectlite.Value).Type", "(internal/reflectlite.Value).IsNil", "internal/reflectlite.TypeOf", "(internal/reflectlite.Value).Elem", "(internal/reflectlite.Value).Set", "math.FMA", "math.sqrt"], unfollowed := true, recurses := true, named := ["enclose/enclose.ErrFloat", "enclose/enclose.ErrOrder", "enclose/enclose.ErrRange", "enclose/enclose.ErrZero", "enclose/enclose.ErrNegative", "enclose/enclose.ErrEmpty", "enclose/enclose.ErrName", "enclose/enclose.ErrShape", "enclose/enclose.ErrSure", "errors.errorType", "enclose/enclose.table"], apart := false, laid := [("errors.errorType", laid_errors_errorType), ("enclose/enclose.ErrFloat", laid_enclose_enclose_ErrFloat), ("enclose/enclose.ErrOrder", laid_enclose_enclose_ErrOrder), ("enclose/enclose.ErrRange", laid_enclose_enclose_ErrRange), ("enclose/enclose.ErrZero", laid_enclose_enclose_ErrZero), ("enclose/enclose.ErrNegative", laid_enclose_enclose_ErrNegative), ("enclose/enclose.ErrEmpty", laid_enclose_enclose_ErrEmpty), ("enclose/enclose.ErrName", laid_enclose_enclose_ErrName), ("enclose/enclose.ErrShape", laid_enclose_enclose_ErrShape), ("enclose/enclose.ErrSure", laid_enclose_enclose_ErrSure), ("enclose/enclose.table", laid_enclose_enclose_table)] }
def SolvesSaid : Prop := solvesRow.holds Tryz.pinned (OpenSpec.ofChange solvesSpec)

/-- ITS FALSE NEIGHBOUR: 'it returns false'. Refute it at one input. -/
def solvesWrong : ChangeSpec := { name := "solves", fn := fun _ => fun
  | [d] => { results := [.lit (.bool false)], args := [d] }
  | _ => none }
def SolvesWrongFalsely : Prop := solvesRow.holds Tryz.pinned (OpenSpec.ofChange solvesWrong)

/-- 'encloselaw.All': WHATEVER THE INPUT: true; the input reads as it did. -/
def allSpec : ChangeSpec := { name := "all", fn := fun _ => fun
  | [d] => { results := [.lit (.bool true)], args := [d] }
  | _ => none }
def allRow : OpenClaim := { program := "ytjlibljfpkmpfaagreatdoor", sum := "1c2d30931de2a1449e2cb0a851ec92c87f353300f0c03529b9f1feab65ffb4f5", func := "enclose/encloselaw.All", spec := "all", inPlace := ["math.Float64frombits", "math.Float64bits", "internal/reflectlite.ValueOf", "(internal/reflectlite.Value).Type", "(internal/reflectlite.Value).IsNil", "internal/reflectlite.TypeOf", "(internal/reflectlite.Value).Elem", "(internal/reflectlite.Value).Set", "math.FMA", "math.sqrt"], unfollowed := true, recurses := true, named := ["enclose/enclose.ErrFloat", "enclose/enclose.ErrOrder", "enclose/enclose.ErrRange", "enclose/enclose.ErrZero", "enclose/enclose.ErrNegative", "enclose/enclose.ErrEmpty", "enclose/enclose.ErrName", "enclose/enclose.ErrShape", "enclose/enclose.ErrSure", "errors.errorType", "enclose/enclose.table"], apart := false, laid := [("errors.errorType", laid_errors_errorType), ("enclose/enclose.ErrFloat", laid_enclose_enclose_ErrFloat), ("enclose/enclose.ErrOrder", laid_enclose_enclose_ErrOrder), ("enclose/enclose.ErrRange", laid_enclose_enclose_ErrRange), ("enclose/enclose.ErrZero", laid_enclose_enclose_ErrZero), ("enclose/enclose.ErrNegative", laid_enclose_enclose_ErrNegative), ("enclose/enclose.ErrEmpty", laid_enclose_enclose_ErrEmpty), ("enclose/enclose.ErrName", laid_enclose_enclose_ErrName), ("enclose/enclose.ErrShape", laid_enclose_enclose_ErrShape), ("enclose/enclose.ErrSure", laid_enclose_enclose_ErrSure), ("enclose/enclose.table", laid_enclose_enclose_table)] }
def AllSaid : Prop := allRow.holds Tryz.pinned (OpenSpec.ofChange allSpec)

/-- ITS FALSE NEIGHBOUR: 'it returns false'. Refute it at one input. -/
def allWrong : ChangeSpec := { name := "all", fn := fun _ => fun
  | [d] => { results := [.lit (.bool false)], args := [d] }
  | _ => none }
def AllWrongFalsely : Prop := allRow.holds Tryz.pinned (OpenSpec.ofChange allWrong)

/- THE SECOND FORM. 'bulk': how many values and letters a reading holds, each counted each time it is reached (what is shared counts as often as it is met; a slice's spare places count too). A statement '..UptoSaid' is the law's where the arguments, and the package variables that the reading takes, are together of bulk at most 1048576: NARROWER than '..Said'. Prove '..Said' where nothing that the law and all that it calls make is longer than what came in: it says more and counts as full. Else prove '..UptoSaid'. A law counts once. -/
mutual
def uptoBulk {H : Type} : DataW H → Nat
  | .lit (.string bytes) => bytes.length + 1
  | .lit _ => 1
  | .nil => 1
  | .ptr d => uptoBulk d + 1
  | .slice elems spare => uptoBulkAll elems + uptoBulkAll spare + 1
  | .agg parts => uptoBulkAll parts + 1
  | .iface _ d => uptoBulk d + 1
  | .map entries => uptoBulkEntries entries + 1
  | .held _ => 1
def uptoBulkAll {H : Type} : List (DataW H) → Nat
  | [] => 0
  | d :: r => uptoBulk d + uptoBulkAll r
def uptoBulkEntries {H : Type} : List (Lit × DataW H) → Nat
  | [] => 0
  | x :: r => uptoBulkEntry x + uptoBulkEntries r
def uptoBulkEntry {H : Type} : Lit × DataW H → Nat
  | (.string bytes, d) => bytes.length + uptoBulk d + 1
  | (_, d) => uptoBulk d + 1
 end
def uptoSmall : (H : Type) → List (DataW H) → Bool := fun _ ds => decide (uptoBulkAll ds ≤ 1048576)
def OpenSpec.upto (s : _root_.Go.ChangeSpec) : _root_.Go.OpenSpec := { _root_.Go.OpenSpec.ofChange s with cond := some uptoSmall }

/-- 'encloselaw.Makes', WHERE WHAT IT READS IS OF BULK AT MOST 1048576: true; the input reads as it did. -/
def makesUptoRow : OpenClaim := { program := "ytjlibljfpkmpfaagreatdoor", sum := "1c2d30931de2a1449e2cb0a851ec92c87f353300f0c03529b9f1feab65ffb4f5", func := "enclose/encloselaw.Makes", spec := "makes", inPlace := ["math.Float64frombits", "math.Float64bits", "internal/reflectlite.ValueOf", "(internal/reflectlite.Value).Type", "(internal/reflectlite.Value).IsNil", "internal/reflectlite.TypeOf", "(internal/reflectlite.Value).Elem", "(internal/reflectlite.Value).Set", "math.FMA", "math.sqrt"], unfollowed := true, recurses := true, named := ["enclose/enclose.ErrFloat", "enclose/enclose.ErrOrder", "enclose/enclose.ErrRange", "enclose/enclose.ErrZero", "enclose/enclose.ErrNegative", "enclose/enclose.ErrEmpty", "enclose/enclose.ErrName", "enclose/enclose.ErrShape", "enclose/enclose.ErrSure", "errors.errorType", "enclose/enclose.table"], apart := false, laid := [("errors.errorType", laid_errors_errorType), ("enclose/enclose.ErrFloat", laid_enclose_enclose_ErrFloat), ("enclose/enclose.ErrOrder", laid_enclose_enclose_ErrOrder), ("enclose/enclose.ErrRange", laid_enclose_enclose_ErrRange), ("enclose/enclose.ErrZero", laid_enclose_enclose_ErrZero), ("enclose/enclose.ErrNegative", laid_enclose_enclose_ErrNegative), ("enclose/enclose.ErrEmpty", laid_enclose_enclose_ErrEmpty), ("enclose/enclose.ErrName", laid_enclose_enclose_ErrName), ("enclose/enclose.ErrShape", laid_enclose_enclose_ErrShape), ("enclose/enclose.ErrSure", laid_enclose_enclose_ErrSure), ("enclose/enclose.table", laid_enclose_enclose_table)], narrowed := true }
def MakesUptoSaid : Prop := makesUptoRow.holds Tryz.pinned (OpenSpec.upto makesSpec)

/-- 'encloselaw.Ops', WHERE WHAT IT READS IS OF BULK AT MOST 1048576: true; the input reads as it did. -/
def opsUptoRow : OpenClaim := { program := "ytjlibljfpkmpfaagreatdoor", sum := "1c2d30931de2a1449e2cb0a851ec92c87f353300f0c03529b9f1feab65ffb4f5", func := "enclose/encloselaw.Ops", spec := "ops", inPlace := ["math.Float64frombits", "math.Float64bits", "internal/reflectlite.ValueOf", "(internal/reflectlite.Value).Type", "(internal/reflectlite.Value).IsNil", "internal/reflectlite.TypeOf", "(internal/reflectlite.Value).Elem", "(internal/reflectlite.Value).Set", "math.FMA", "math.sqrt"], unfollowed := true, recurses := true, named := ["enclose/enclose.ErrFloat", "enclose/enclose.ErrOrder", "enclose/enclose.ErrRange", "enclose/enclose.ErrZero", "enclose/enclose.ErrNegative", "enclose/enclose.ErrEmpty", "enclose/enclose.ErrName", "enclose/enclose.ErrShape", "enclose/enclose.ErrSure", "errors.errorType", "enclose/enclose.table"], apart := false, laid := [("errors.errorType", laid_errors_errorType), ("enclose/enclose.ErrFloat", laid_enclose_enclose_ErrFloat), ("enclose/enclose.ErrOrder", laid_enclose_enclose_ErrOrder), ("enclose/enclose.ErrRange", laid_enclose_enclose_ErrRange), ("enclose/enclose.ErrZero", laid_enclose_enclose_ErrZero), ("enclose/enclose.ErrNegative", laid_enclose_enclose_ErrNegative), ("enclose/enclose.ErrEmpty", laid_enclose_enclose_ErrEmpty), ("enclose/enclose.ErrName", laid_enclose_enclose_ErrName), ("enclose/enclose.ErrShape", laid_enclose_enclose_ErrShape), ("enclose/enclose.ErrSure", laid_enclose_enclose_ErrSure), ("enclose/enclose.table", laid_enclose_enclose_table)], narrowed := true }
def OpsUptoSaid : Prop := opsUptoRow.holds Tryz.pinned (OpenSpec.upto opsSpec)

/-- 'encloselaw.Applies', WHERE WHAT IT READS IS OF BULK AT MOST 1048576: true; the input reads as it did. -/
def appliesUptoRow : OpenClaim := { program := "ytjlibljfpkmpfaagreatdoor", sum := "1c2d30931de2a1449e2cb0a851ec92c87f353300f0c03529b9f1feab65ffb4f5", func := "enclose/encloselaw.Applies", spec := "applies", inPlace := ["math.Float64frombits", "math.Float64bits", "internal/reflectlite.ValueOf", "(internal/reflectlite.Value).Type", "(internal/reflectlite.Value).IsNil", "internal/reflectlite.TypeOf", "(internal/reflectlite.Value).Elem", "(internal/reflectlite.Value).Set", "math.FMA", "math.sqrt"], unfollowed := true, recurses := true, named := ["enclose/enclose.ErrFloat", "enclose/enclose.ErrOrder", "enclose/enclose.ErrRange", "enclose/enclose.ErrZero", "enclose/enclose.ErrNegative", "enclose/enclose.ErrEmpty", "enclose/enclose.ErrName", "enclose/enclose.ErrShape", "enclose/enclose.ErrSure", "errors.errorType", "enclose/enclose.table"], apart := false, laid := [("errors.errorType", laid_errors_errorType), ("enclose/enclose.ErrFloat", laid_enclose_enclose_ErrFloat), ("enclose/enclose.ErrOrder", laid_enclose_enclose_ErrOrder), ("enclose/enclose.ErrRange", laid_enclose_enclose_ErrRange), ("enclose/enclose.ErrZero", laid_enclose_enclose_ErrZero), ("enclose/enclose.ErrNegative", laid_enclose_enclose_ErrNegative), ("enclose/enclose.ErrEmpty", laid_enclose_enclose_ErrEmpty), ("enclose/enclose.ErrName", laid_enclose_enclose_ErrName), ("enclose/enclose.ErrShape", laid_enclose_enclose_ErrShape), ("enclose/enclose.ErrSure", laid_enclose_enclose_ErrSure), ("enclose/enclose.table", laid_enclose_enclose_table)], narrowed := true }
def AppliesUptoSaid : Prop := appliesUptoRow.holds Tryz.pinned (OpenSpec.upto appliesSpec)

/-- 'encloselaw.Exacts', WHERE WHAT IT READS IS OF BULK AT MOST 1048576: true; the input reads as it did. -/
def exactsUptoRow : OpenClaim := { program := "ytjlibljfpkmpfaagreatdoor", sum := "1c2d30931de2a1449e2cb0a851ec92c87f353300f0c03529b9f1feab65ffb4f5", func := "enclose/encloselaw.Exacts", spec := "exacts", inPlace := ["math.Float64frombits", "math.Float64bits", "internal/reflectlite.ValueOf", "(internal/reflectlite.Value).Type", "(internal/reflectlite.Value).IsNil", "internal/reflectlite.TypeOf", "(internal/reflectlite.Value).Elem", "(internal/reflectlite.Value).Set", "math.FMA", "math.sqrt"], unfollowed := true, recurses := true, named := ["enclose/enclose.ErrFloat", "enclose/enclose.ErrOrder", "enclose/enclose.ErrRange", "enclose/enclose.ErrZero", "enclose/enclose.ErrNegative", "enclose/enclose.ErrEmpty", "enclose/enclose.ErrName", "enclose/enclose.ErrShape", "enclose/enclose.ErrSure", "errors.errorType", "enclose/enclose.table"], apart := false, laid := [("errors.errorType", laid_errors_errorType), ("enclose/enclose.ErrFloat", laid_enclose_enclose_ErrFloat), ("enclose/enclose.ErrOrder", laid_enclose_enclose_ErrOrder), ("enclose/enclose.ErrRange", laid_enclose_enclose_ErrRange), ("enclose/enclose.ErrZero", laid_enclose_enclose_ErrZero), ("enclose/enclose.ErrNegative", laid_enclose_enclose_ErrNegative), ("enclose/enclose.ErrEmpty", laid_enclose_enclose_ErrEmpty), ("enclose/enclose.ErrName", laid_enclose_enclose_ErrName), ("enclose/enclose.ErrShape", laid_enclose_enclose_ErrShape), ("enclose/enclose.ErrSure", laid_enclose_enclose_ErrSure), ("enclose/enclose.table", laid_enclose_enclose_table)], narrowed := true }
def ExactsUptoSaid : Prop := exactsUptoRow.holds Tryz.pinned (OpenSpec.upto exactsSpec)

/-- 'encloselaw.Evals', WHERE WHAT IT READS IS OF BULK AT MOST 1048576: true; the input reads as it did. -/
def evalsUptoRow : OpenClaim := { program := "ytjlibljfpkmpfaagreatdoor", sum := "1c2d30931de2a1449e2cb0a851ec92c87f353300f0c03529b9f1feab65ffb4f5", func := "enclose/encloselaw.Evals", spec := "evals", inPlace := ["math.Float64frombits", "math.Float64bits", "internal/reflectlite.ValueOf", "(internal/reflectlite.Value).Type", "(internal/reflectlite.Value).IsNil", "internal/reflectlite.TypeOf", "(internal/reflectlite.Value).Elem", "(internal/reflectlite.Value).Set", "math.FMA", "math.sqrt"], unfollowed := true, recurses := true, named := ["enclose/enclose.ErrFloat", "enclose/enclose.ErrOrder", "enclose/enclose.ErrRange", "enclose/enclose.ErrZero", "enclose/enclose.ErrNegative", "enclose/enclose.ErrEmpty", "enclose/enclose.ErrName", "enclose/enclose.ErrShape", "enclose/enclose.ErrSure", "errors.errorType", "enclose/enclose.table"], apart := false, laid := [("errors.errorType", laid_errors_errorType), ("enclose/enclose.ErrFloat", laid_enclose_enclose_ErrFloat), ("enclose/enclose.ErrOrder", laid_enclose_enclose_ErrOrder), ("enclose/enclose.ErrRange", laid_enclose_enclose_ErrRange), ("enclose/enclose.ErrZero", laid_enclose_enclose_ErrZero), ("enclose/enclose.ErrNegative", laid_enclose_enclose_ErrNegative), ("enclose/enclose.ErrEmpty", laid_enclose_enclose_ErrEmpty), ("enclose/enclose.ErrName", laid_enclose_enclose_ErrName), ("enclose/enclose.ErrShape", laid_enclose_enclose_ErrShape), ("enclose/enclose.ErrSure", laid_enclose_enclose_ErrSure), ("enclose/enclose.table", laid_enclose_enclose_table)], narrowed := true }
def EvalsUptoSaid : Prop := evalsUptoRow.holds Tryz.pinned (OpenSpec.upto evalsSpec)

/-- 'encloselaw.Pieces', WHERE WHAT IT READS IS OF BULK AT MOST 1048576: true; the input reads as it did. -/
def piecesUptoRow : OpenClaim := { program := "ytjlibljfpkmpfaagreatdoor", sum := "1c2d30931de2a1449e2cb0a851ec92c87f353300f0c03529b9f1feab65ffb4f5", func := "enclose/encloselaw.Pieces", spec := "pieces", inPlace := ["math.Float64frombits", "math.Float64bits", "internal/reflectlite.ValueOf", "(internal/reflectlite.Value).Type", "(internal/reflectlite.Value).IsNil", "internal/reflectlite.TypeOf", "(internal/reflectlite.Value).Elem", "(internal/reflectlite.Value).Set", "math.FMA", "math.sqrt"], unfollowed := true, recurses := true, named := ["enclose/enclose.ErrFloat", "enclose/enclose.ErrOrder", "enclose/enclose.ErrRange", "enclose/enclose.ErrZero", "enclose/enclose.ErrNegative", "enclose/enclose.ErrEmpty", "enclose/enclose.ErrName", "enclose/enclose.ErrShape", "enclose/enclose.ErrSure", "errors.errorType", "enclose/enclose.table"], apart := false, laid := [("errors.errorType", laid_errors_errorType), ("enclose/enclose.ErrFloat", laid_enclose_enclose_ErrFloat), ("enclose/enclose.ErrOrder", laid_enclose_enclose_ErrOrder), ("enclose/enclose.ErrRange", laid_enclose_enclose_ErrRange), ("enclose/enclose.ErrZero", laid_enclose_enclose_ErrZero), ("enclose/enclose.ErrNegative", laid_enclose_enclose_ErrNegative), ("enclose/enclose.ErrEmpty", laid_enclose_enclose_ErrEmpty), ("enclose/enclose.ErrName", laid_enclose_enclose_ErrName), ("enclose/enclose.ErrShape", laid_enclose_enclose_ErrShape), ("enclose/enclose.ErrSure", laid_enclose_enclose_ErrSure), ("enclose/enclose.table", laid_enclose_enclose_table)], narrowed := true }
def PiecesUptoSaid : Prop := piecesUptoRow.holds Tryz.pinned (OpenSpec.upto piecesSpec)

/-- 'encloselaw.Solves', WHERE WHAT IT READS IS OF BULK AT MOST 1048576: true; the input reads as it did. -/
def solvesUptoRow : OpenClaim := { program := "ytjlibljfpkmpfaagreatdoor", sum := "1c2d30931de2a1449e2cb0a851ec92c87f353300f0c03529b9f1feab65ffb4f5", func := "enclose/encloselaw.Solves", spec := "solves", inPlace := ["math.Float64frombits", "math.Float64bits", "internal/reflectlite.ValueOf", "(internal/reflectlite.Value).Type", "(internal/reflectlite.Value).IsNil", "internal/reflectlite.TypeOf", "(internal/reflectlite.Value).Elem", "(internal/reflectlite.Value).Set", "math.FMA", "math.sqrt"], unfollowed := true, recurses := true, named := ["enclose/enclose.ErrFloat", "enclose/enclose.ErrOrder", "enclose/enclose.ErrRange", "enclose/enclose.ErrZero", "enclose/enclose.ErrNegative", "enclose/enclose.ErrEmpty", "enclose/enclose.ErrName", "enclose/enclose.ErrShape", "enclose/enclose.ErrSure", "errors.errorType", "enclose/enclose.table"], apart := false, laid := [("errors.errorType", laid_errors_errorType), ("enclose/enclose.ErrFloat", laid_enclose_enclose_ErrFloat), ("enclose/enclose.ErrOrder", laid_enclose_enclose_ErrOrder), ("enclose/enclose.ErrRange", laid_enclose_enclose_ErrRange), ("enclose/enclose.ErrZero", laid_enclose_enclose_ErrZero), ("enclose/enclose.ErrNegative", laid_enclose_enclose_ErrNegative), ("enclose/enclose.ErrEmpty", laid_enclose_enclose_ErrEmpty), ("enclose/enclose.ErrName", laid_enclose_enclose_ErrName), ("enclose/enclose.ErrShape", laid_enclose_enclose_ErrShape), ("enclose/enclose.ErrSure", laid_enclose_enclose_ErrSure), ("enclose/enclose.table", laid_enclose_enclose_table)], narrowed := true }
def SolvesUptoSaid : Prop := solvesUptoRow.holds Tryz.pinned (OpenSpec.upto solvesSpec)

/-- 'encloselaw.All', WHERE WHAT IT READS IS OF BULK AT MOST 1048576: true; the input reads as it did. -/
def allUptoRow : OpenClaim := { program := "ytjlibljfpkmpfaagreatdoor", sum := "1c2d30931de2a1449e2cb0a851ec92c87f353300f0c03529b9f1feab65ffb4f5", func := "enclose/encloselaw.All", spec := "all", inPlace := ["math.Float64frombits", "math.Float64bits", "internal/reflectlite.ValueOf", "(internal/reflectlite.Value).Type", "(internal/reflectlite.Value).IsNil", "internal/reflectlite.TypeOf", "(internal/reflectlite.Value).Elem", "(internal/reflectlite.Value).Set", "math.FMA", "math.sqrt"], unfollowed := true, recurses := true, named := ["enclose/enclose.ErrFloat", "enclose/enclose.ErrOrder", "enclose/enclose.ErrRange", "enclose/enclose.ErrZero", "enclose/enclose.ErrNegative", "enclose/enclose.ErrEmpty", "enclose/enclose.ErrName", "enclose/enclose.ErrShape", "enclose/enclose.ErrSure", "errors.errorType", "enclose/enclose.table"], apart := false, laid := [("errors.errorType", laid_errors_errorType), ("enclose/enclose.ErrFloat", laid_enclose_enclose_ErrFloat), ("enclose/enclose.ErrOrder", laid_enclose_enclose_ErrOrder), ("enclose/enclose.ErrRange", laid_enclose_enclose_ErrRange), ("enclose/enclose.ErrZero", laid_enclose_enclose_ErrZero), ("enclose/enclose.ErrNegative", laid_enclose_enclose_ErrNegative), ("enclose/enclose.ErrEmpty", laid_enclose_enclose_ErrEmpty), ("enclose/enclose.ErrName", laid_enclose_enclose_ErrName), ("enclose/enclose.ErrShape", laid_enclose_enclose_ErrShape), ("enclose/enclose.ErrSure", laid_enclose_enclose_ErrSure), ("enclose/enclose.table", laid_enclose_enclose_table)], narrowed := true }
def AllUptoSaid : Prop := allUptoRow.holds Tryz.pinned (OpenSpec.upto allSpec)

end Rows
end Go.Proofs.YtjlibljfpkmpfaaGreatDoor
