/-
  NARROWER THAN 'FOR EVERY INPUT', by the rows' own cells (each row's printed sentence says how): Names: laid · Finds: laid · Knows: laid · Balances: laid.
  DERIVED. THE GIVEN ROWS OF THIS SEAT. 4 by the template 'for every input the law returns true; each argument reads behind the call as it read before'; 0 by the template 'total and deterministic' (their statements: YtjlibljfpkmpfaaDoorTotals.lean).
  GIVEN WITH THE SEED: the statements are not yours to turn. If you find one false, say at which input.
  Laid BY PROGRAM, IN A SANDBOX (cutbox-rows.mjs): the forced cells as the released guide's own fill.sh prints them over the translation fc668d65f4bfdbf8… (all of the seat's roots in one cut). By AI agents, Wed Nov 11 2026. No macro, syntax, notation, axiom, sorry.
-/
import Derived.Test.YtjlibljfpkmpfaaDoorChecked
import GoSem.Claim
import GoSem.ClaimJoined
import GoSem.ClaimMapViews
import Derived.JoinedTies
import Derived.KernelRfl
namespace Go.Proofs.YtjlibljfpkmpfaaDoor
/- THE CELL 'sum', in the pinned program and in every row, IS THE sha256 OF THE DUMP (.gsa) THAT YtjlibljfpkmpfaaDoorProg.lean LOADS. Nothing in Lean hashes anything: it is a label: what it is worth is what the hold of that sum in a sandbox is worth. -/
noncomputable def Tryd.pinned : Pinned := { name := "ytjlibljfpkmpfaadoor", sum := "fc668d65f4bfdbf846c523165380d5a53ce4810fb5dc016b4717381f684b2ff8", checked := Tryd.checked }
namespace Rows
def none {H : Type} : Left H := { results := [], args := [] }

/- WHAT THE LISTED PACKAGE-LEVEL VARIABLES READ AS WHEN THE CALL BEGINS. Each datum BY PROGRAM (the guide's laid-datum.mjs) off the statement by which the dump's own 'gosem.cut.vars' lays the variable. In a bare row this is a premise. The card (YtjlibljfpkmpfaaDoorCards.lean) ties it to the program's text. -/
def laid_errors_errorType {H : Type} : DataW H := .iface "internal/reflectlite.rtype" (.agg [.ptr (.lit (.string [101, 114, 114, 111, 114]))])
def laid_enclose_enclose_ErrFloat {H : Type} : DataW H := .iface "*errors.errorString" (.ptr (.agg [.lit (.string [110, 111, 32, 112, 108, 97, 105, 110, 32, 102, 108, 111, 97, 116])]))
def laid_enclose_enclose_ErrOrder {H : Type} : DataW H := .iface "*errors.errorString" (.ptr (.agg [.lit (.string [101, 110, 100, 115, 32, 105, 110, 32, 116, 104, 101, 32, 119, 114, 111, 110, 103, 32, 111, 114, 100, 101, 114])]))
def laid_enclose_enclose_ErrRange {H : Type} : DataW H := .iface "*errors.errorString" (.ptr (.agg [.lit (.string [111, 117, 116, 32, 111, 102, 32, 114, 97, 110, 103, 101])]))
def laid_enclose_enclose_ErrZero {H : Type} : DataW H := .iface "*errors.errorString" (.ptr (.agg [.lit (.string [100, 105, 118, 105, 115, 105, 111, 110, 32, 98, 121, 32, 119, 104, 97, 116, 32, 104, 111, 108, 100, 115, 32, 48])]))
def laid_enclose_enclose_ErrNegative {H : Type} : DataW H := .iface "*errors.errorString" (.ptr (.agg [.lit (.string [114, 111, 111, 116, 32, 111, 102, 32, 119, 104, 97, 116, 32, 105, 115, 32, 98, 101, 108, 111, 119, 32, 48])]))
def laid_enclose_enclose_ErrEmpty {H : Type} : DataW H := .iface "*errors.errorString" (.ptr (.agg [.lit (.string [110, 111, 116, 104, 105, 110, 103, 32, 105, 110, 32, 99, 111, 109, 109, 111, 110])]))
def laid_enclose_enclose_ErrName {H : Type} : DataW H := .iface "*errors.errorString" (.ptr (.agg [.lit (.string [110, 111, 32, 115, 117, 99, 104, 32, 111, 112, 101, 114, 97, 116, 105, 111, 110])]))
def laid_enclose_enclose_ErrShape {H : Type} : DataW H := .iface "*errors.errorString" (.ptr (.agg [.lit (.string [119, 114, 111, 110, 103, 32, 115, 104, 97, 112, 101])]))
def laid_enclose_enclose_ErrSure {H : Type} : DataW H := .iface "*errors.errorString" (.ptr (.agg [.lit (.string [110, 111, 116, 32, 115, 117, 114, 101, 32, 111, 102, 32, 97, 110, 32, 97, 110, 115, 119, 101, 114])]))

/-- 'encloselaw.Names': WHATEVER THE INPUT: true; the input reads as it did. -/
def namesSpec : ChangeSpec := { name := "names", fn := fun _ => fun
  | [] => { results := [.lit (.bool true)], args := [] }
  | _ => none }
def namesRow : OpenClaim := { program := "ytjlibljfpkmpfaadoor", sum := "fc668d65f4bfdbf846c523165380d5a53ce4810fb5dc016b4717381f684b2ff8", func := "enclose/encloselaw.Names", spec := "names", inPlace := ["internal/reflectlite.ValueOf", "(internal/reflectlite.Value).Type", "(internal/reflectlite.Value).IsNil", "internal/reflectlite.TypeOf", "(internal/reflectlite.Value).Elem", "(internal/reflectlite.Value).Set"], unfollowed := true, recurses := true, named := ["enclose/enclose.ErrFloat", "enclose/enclose.ErrOrder", "enclose/enclose.ErrRange", "enclose/enclose.ErrZero", "enclose/enclose.ErrNegative", "enclose/enclose.ErrEmpty", "enclose/enclose.ErrName", "enclose/enclose.ErrShape", "enclose/enclose.ErrSure", "errors.errorType"], apart := false, laid := [("errors.errorType", laid_errors_errorType), ("enclose/enclose.ErrFloat", laid_enclose_enclose_ErrFloat), ("enclose/enclose.ErrOrder", laid_enclose_enclose_ErrOrder), ("enclose/enclose.ErrRange", laid_enclose_enclose_ErrRange), ("enclose/enclose.ErrZero", laid_enclose_enclose_ErrZero), ("enclose/enclose.ErrNegative", laid_enclose_enclose_ErrNegative), ("enclose/enclose.ErrEmpty", laid_enclose_enclose_ErrEmpty), ("enclose/enclose.ErrName", laid_enclose_enclose_ErrName), ("enclose/enclose.ErrShape", laid_enclose_enclose_ErrShape), ("enclose/enclose.ErrSure", laid_enclose_enclose_ErrSure)] }
def NamesSaid : Prop := namesRow.holds Tryd.pinned (OpenSpec.ofChange namesSpec)

/-- ITS FALSE NEIGHBOUR: 'it returns false'. Refute it at one input. -/
def namesWrong : ChangeSpec := { name := "names", fn := fun _ => fun
  | [] => { results := [.lit (.bool false)], args := [] }
  | _ => none }
def NamesWrongFalsely : Prop := namesRow.holds Tryd.pinned (OpenSpec.ofChange namesWrong)

/-- 'encloselaw.Finds': WHATEVER THE INPUT: true; the input reads as it did. -/
def findsSpec : ChangeSpec := { name := "finds", fn := fun _ => fun
  | [d] => { results := [.lit (.bool true)], args := [d] }
  | _ => none }
def findsRow : OpenClaim := { program := "ytjlibljfpkmpfaadoor", sum := "fc668d65f4bfdbf846c523165380d5a53ce4810fb5dc016b4717381f684b2ff8", func := "enclose/encloselaw.Finds", spec := "finds", inPlace := ["math.Float64bits", "math.Float64frombits", "internal/reflectlite.ValueOf", "(internal/reflectlite.Value).Type", "(internal/reflectlite.Value).IsNil", "internal/reflectlite.TypeOf", "(internal/reflectlite.Value).Elem", "(internal/reflectlite.Value).Set", "math.FMA"], unfollowed := true, recurses := true, named := ["enclose/enclose.ErrFloat", "enclose/enclose.ErrOrder", "enclose/enclose.ErrRange", "enclose/enclose.ErrZero", "enclose/enclose.ErrNegative", "enclose/enclose.ErrEmpty", "enclose/enclose.ErrName", "enclose/enclose.ErrShape", "enclose/enclose.ErrSure", "errors.errorType"], apart := false, laid := [("errors.errorType", laid_errors_errorType), ("enclose/enclose.ErrFloat", laid_enclose_enclose_ErrFloat), ("enclose/enclose.ErrOrder", laid_enclose_enclose_ErrOrder), ("enclose/enclose.ErrRange", laid_enclose_enclose_ErrRange), ("enclose/enclose.ErrZero", laid_enclose_enclose_ErrZero), ("enclose/enclose.ErrNegative", laid_enclose_enclose_ErrNegative), ("enclose/enclose.ErrEmpty", laid_enclose_enclose_ErrEmpty), ("enclose/enclose.ErrName", laid_enclose_enclose_ErrName), ("enclose/enclose.ErrShape", laid_enclose_enclose_ErrShape), ("enclose/enclose.ErrSure", laid_enclose_enclose_ErrSure)] }
def FindsSaid : Prop := findsRow.holds Tryd.pinned (OpenSpec.ofChange findsSpec)

/-- ITS FALSE NEIGHBOUR: 'it returns false'. Refute it at one input. -/
def findsWrong : ChangeSpec := { name := "finds", fn := fun _ => fun
  | [d] => { results := [.lit (.bool false)], args := [d] }
  | _ => none }
def FindsWrongFalsely : Prop := findsRow.holds Tryd.pinned (OpenSpec.ofChange findsWrong)

/-- 'encloselaw.Knows': WHATEVER THE INPUT: true; the input reads as it did. -/
def knowsSpec : ChangeSpec := { name := "knows", fn := fun _ => fun
  | [d] => { results := [.lit (.bool true)], args := [d] }
  | _ => none }
def knowsRow : OpenClaim := { program := "ytjlibljfpkmpfaadoor", sum := "fc668d65f4bfdbf846c523165380d5a53ce4810fb5dc016b4717381f684b2ff8", func := "enclose/encloselaw.Knows", spec := "knows", inPlace := ["math.Float64bits", "math.Float64frombits", "internal/reflectlite.ValueOf", "(internal/reflectlite.Value).Type", "(internal/reflectlite.Value).IsNil", "internal/reflectlite.TypeOf", "(internal/reflectlite.Value).Elem", "(internal/reflectlite.Value).Set", "math.FMA", "math.sqrt"], unfollowed := true, recurses := true, named := ["enclose/enclose.ErrFloat", "enclose/enclose.ErrOrder", "enclose/enclose.ErrRange", "enclose/enclose.ErrZero", "enclose/enclose.ErrNegative", "enclose/enclose.ErrEmpty", "enclose/enclose.ErrName", "enclose/enclose.ErrShape", "enclose/enclose.ErrSure", "errors.errorType"], apart := false, laid := [("errors.errorType", laid_errors_errorType), ("enclose/enclose.ErrFloat", laid_enclose_enclose_ErrFloat), ("enclose/enclose.ErrOrder", laid_enclose_enclose_ErrOrder), ("enclose/enclose.ErrRange", laid_enclose_enclose_ErrRange), ("enclose/enclose.ErrZero", laid_enclose_enclose_ErrZero), ("enclose/enclose.ErrNegative", laid_enclose_enclose_ErrNegative), ("enclose/enclose.ErrEmpty", laid_enclose_enclose_ErrEmpty), ("enclose/enclose.ErrName", laid_enclose_enclose_ErrName), ("enclose/enclose.ErrShape", laid_enclose_enclose_ErrShape), ("enclose/enclose.ErrSure", laid_enclose_enclose_ErrSure)] }
def KnowsSaid : Prop := knowsRow.holds Tryd.pinned (OpenSpec.ofChange knowsSpec)

/-- ITS FALSE NEIGHBOUR: 'it returns false'. Refute it at one input. -/
def knowsWrong : ChangeSpec := { name := "knows", fn := fun _ => fun
  | [d] => { results := [.lit (.bool false)], args := [d] }
  | _ => none }
def KnowsWrongFalsely : Prop := knowsRow.holds Tryd.pinned (OpenSpec.ofChange knowsWrong)

/-- 'encloselaw.Balances': WHATEVER THE INPUT: true; the input reads as it did. -/
def balancesSpec : ChangeSpec := { name := "balances", fn := fun _ => fun
  | [d] => { results := [.lit (.bool true)], args := [d] }
  | _ => none }
def balancesRow : OpenClaim := { program := "ytjlibljfpkmpfaadoor", sum := "fc668d65f4bfdbf846c523165380d5a53ce4810fb5dc016b4717381f684b2ff8", func := "enclose/encloselaw.Balances", spec := "balances", inPlace := ["math.Float64bits", "math.Float64frombits", "internal/reflectlite.ValueOf", "(internal/reflectlite.Value).Type", "(internal/reflectlite.Value).IsNil", "internal/reflectlite.TypeOf", "(internal/reflectlite.Value).Elem", "(internal/reflectlite.Value).Set", "math.FMA"], unfollowed := true, recurses := true, named := ["enclose/enclose.ErrFloat", "enclose/enclose.ErrOrder", "enclose/enclose.ErrRange", "enclose/enclose.ErrZero", "enclose/enclose.ErrNegative", "enclose/enclose.ErrEmpty", "enclose/enclose.ErrName", "enclose/enclose.ErrShape", "enclose/enclose.ErrSure", "errors.errorType"], apart := false, laid := [("errors.errorType", laid_errors_errorType), ("enclose/enclose.ErrFloat", laid_enclose_enclose_ErrFloat), ("enclose/enclose.ErrOrder", laid_enclose_enclose_ErrOrder), ("enclose/enclose.ErrRange", laid_enclose_enclose_ErrRange), ("enclose/enclose.ErrZero", laid_enclose_enclose_ErrZero), ("enclose/enclose.ErrNegative", laid_enclose_enclose_ErrNegative), ("enclose/enclose.ErrEmpty", laid_enclose_enclose_ErrEmpty), ("enclose/enclose.ErrName", laid_enclose_enclose_ErrName), ("enclose/enclose.ErrShape", laid_enclose_enclose_ErrShape), ("enclose/enclose.ErrSure", laid_enclose_enclose_ErrSure)] }
def BalancesSaid : Prop := balancesRow.holds Tryd.pinned (OpenSpec.ofChange balancesSpec)

/-- ITS FALSE NEIGHBOUR: 'it returns false'. Refute it at one input. -/
def balancesWrong : ChangeSpec := { name := "balances", fn := fun _ => fun
  | [d] => { results := [.lit (.bool false)], args := [d] }
  | _ => none }
def BalancesWrongFalsely : Prop := balancesRow.holds Tryd.pinned (OpenSpec.ofChange balancesWrong)

/- THE SECOND FORM. 'bulk': how many values and letters a reading holds, each counted each time it is reached (what is shared counts as often as it is met; a slice's spare places count too). A statement '..UptoSaid' is the law's where the arguments, and the package variables that the reading takes, are together of bulk at most 1048576: NARROWER than '..Said'. Prove '..Said' where nothing that the law and all that it calls make is longer than what came in: it says more and counts as full. Else prove '..UptoSaid'. A law counts once. -/
mutual
def uptoBulk {H : Type} : DataW H → Nat
  | .lit (.string bytes) => bytes.length + 1
  | .lit _ => 1
  | .nil => 1
  | .ptr d => uptoBulk d + 1
  | .slice elems spare => uptoBulkAll elems + uptoBulkAll spare + 1
  | .agg parts => uptoBulkAll parts + 1
  | .iface _ d => uptoBulk d + 1
  | .map entries => uptoBulkEntries entries + 1
  | .held _ => 1
def uptoBulkAll {H : Type} : List (DataW H) → Nat
  | [] => 0
  | d :: r => uptoBulk d + uptoBulkAll r
def uptoBulkEntries {H : Type} : List (Lit × DataW H) → Nat
  | [] => 0
  | x :: r => uptoBulkEntry x + uptoBulkEntries r
def uptoBulkEntry {H : Type} : Lit × DataW H → Nat
  | (.string bytes, d) => bytes.length + uptoBulk d + 1
  | (_, d) => uptoBulk d + 1
 end
def uptoSmall : (H : Type) → List (DataW H) → Bool := fun _ ds => decide (uptoBulkAll ds ≤ 1048576)
def OpenSpec.upto (s : _root_.Go.ChangeSpec) : _root_.Go.OpenSpec := { _root_.Go.OpenSpec.ofChange s with cond := some uptoSmall }

/-- 'encloselaw.Names', WHERE WHAT IT READS IS OF BULK AT MOST 1048576: true; the input reads as it did. -/
def namesUptoRow : OpenClaim := { program := "ytjlibljfpkmpfaadoor", sum := "fc668d65f4bfdbf846c523165380d5a53ce4810fb5dc016b4717381f684b2ff8", func := "enclose/encloselaw.Names", spec := "names", inPlace := ["internal/reflectlite.ValueOf", "(internal/reflectlite.Value).Type", "(internal/reflectlite.Value).IsNil", "internal/reflectlite.TypeOf", "(internal/reflectlite.Value).Elem", "(internal/reflectlite.Value).Set"], unfollowed := true, recurses := true, named := ["enclose/enclose.ErrFloat", "enclose/enclose.ErrOrder", "enclose/enclose.ErrRange", "enclose/enclose.ErrZero", "enclose/enclose.ErrNegative", "enclose/enclose.ErrEmpty", "enclose/enclose.ErrName", "enclose/enclose.ErrShape", "enclose/enclose.ErrSure", "errors.errorType"], apart := false, laid := [("errors.errorType", laid_errors_errorType), ("enclose/enclose.ErrFloat", laid_enclose_enclose_ErrFloat), ("enclose/enclose.ErrOrder", laid_enclose_enclose_ErrOrder), ("enclose/enclose.ErrRange", laid_enclose_enclose_ErrRange), ("enclose/enclose.ErrZero", laid_enclose_enclose_ErrZero), ("enclose/enclose.ErrNegative", laid_enclose_enclose_ErrNegative), ("enclose/enclose.ErrEmpty", laid_enclose_enclose_ErrEmpty), ("enclose/enclose.ErrName", laid_enclose_enclose_ErrName), ("enclose/enclose.ErrShape", laid_enclose_enclose_ErrShape), ("enclose/enclose.ErrSure", laid_enclose_enclose_ErrSure)], narrowed := true }
def NamesUptoSaid : Prop := namesUptoRow.holds Tryd.pinned (OpenSpec.upto namesSpec)

/-- 'encloselaw.Finds', WHERE WHAT IT READS IS OF BULK AT MOST 1048576: true; the input reads as it did. -/
def findsUptoRow : OpenClaim := { program := "ytjlibljfpkmpfaadoor", sum := "fc668d65f4bfdbf846c523165380d5a53ce4810fb5dc016b4717381f684b2ff8", func := "enclose/encloselaw.Finds", spec := "finds", inPlace := ["math.Float64bits", "math.Float64frombits", "internal/reflectlite.ValueOf", "(internal/reflectlite.Value).Type", "(internal/reflectlite.Value).IsNil", "internal/reflectlite.TypeOf", "(internal/reflectlite.Value).Elem", "(internal/reflectlite.Value).Set", "math.FMA"], unfollowed := true, recurses := true, named := ["enclose/enclose.ErrFloat", "enclose/enclose.ErrOrder", "enclose/enclose.ErrRange", "enclose/enclose.ErrZero", "enclose/enclose.ErrNegative", "enclose/enclose.ErrEmpty", "enclose/enclose.ErrName", "enclose/enclose.ErrShape", "enclose/enclose.ErrSure", "errors.errorType"], apart := false, laid := [("errors.errorType", laid_errors_errorType), ("enclose/enclose.ErrFloat", laid_enclose_enclose_ErrFloat), ("enclose/enclose.ErrOrder", laid_enclose_enclose_ErrOrder), ("enclose/enclose.ErrRange", laid_enclose_enclose_ErrRange), ("enclose/enclose.ErrZero", laid_enclose_enclose_ErrZero), ("enclose/enclose.ErrNegative", laid_enclose_enclose_ErrNegative), ("enclose/enclose.ErrEmpty", laid_enclose_enclose_ErrEmpty), ("enclose/enclose.ErrName", laid_enclose_enclose_ErrName), ("enclose/enclose.ErrShape", laid_enclose_enclose_ErrShape), ("enclose/enclose.ErrSure", laid_enclose_enclose_ErrSure)], narrowed := true }
def FindsUptoSaid : Prop := findsUptoRow.holds Tryd.pinned (OpenSpec.upto findsSpec)

/-- 'encloselaw.Knows', WHERE WHAT IT READS IS OF BULK AT MOST 1048576: true; the input reads as it did. -/
def knowsUptoRow : OpenClaim := { program := "ytjlibljfpkmpfaadoor", sum := "fc668d65f4bfdbf846c523165380d5a53ce4810fb5dc016b4717381f684b2ff8", func := "enclose/encloselaw.Knows", spec := "knows", inPlace := ["math.Float64bits", "math.Float64frombits", "internal/reflectlite.ValueOf", "(internal/reflectlite.Value).Type", "(internal/reflectlite.Value).IsNil", "internal/reflectlite.TypeOf", "(internal/reflectlite.Value).Elem", "(internal/reflectlite.Value).Set", "math.FMA", "math.sqrt"], unfollowed := true, recurses := true, named := ["enclose/enclose.ErrFloat", "enclose/enclose.ErrOrder", "enclose/enclose.ErrRange", "enclose/enclose.ErrZero", "enclose/enclose.ErrNegative", "enclose/enclose.ErrEmpty", "enclose/enclose.ErrName", "enclose/enclose.ErrShape", "enclose/enclose.ErrSure", "errors.errorType"], apart := false, laid := [("errors.errorType", laid_errors_errorType), ("enclose/enclose.ErrFloat", laid_enclose_enclose_ErrFloat), ("enclose/enclose.ErrOrder", laid_enclose_enclose_ErrOrder), ("enclose/enclose.ErrRange", laid_enclose_enclose_ErrRange), ("enclose/enclose.ErrZero", laid_enclose_enclose_ErrZero), ("enclose/enclose.ErrNegative", laid_enclose_enclose_ErrNegative), ("enclose/enclose.ErrEmpty", laid_enclose_enclose_ErrEmpty), ("enclose/enclose.ErrName", laid_enclose_enclose_ErrName), ("enclose/enclose.ErrShape", laid_enclose_enclose_ErrShape), ("enclose/enclose.ErrSure", laid_enclose_enclose_ErrSure)], narrowed := true }
def KnowsUptoSaid : Prop := knowsUptoRow.holds Tryd.pinned (OpenSpec.upto knowsSpec)

/-- 'encloselaw.Balances', WHERE WHAT IT READS IS OF BULK AT MOST 1048576: true; the input reads as it did. -/
def balancesUptoRow : OpenClaim := { program := "ytjlibljfpkmpfaadoor", sum := "fc668d65f4bfdbf846c523165380d5a53ce4810fb5dc016b4717381f684b2ff8", func := "enclose/encloselaw.Balances", spec := "balances", inPlace := ["math.Float64bits", "math.Float64frombits", "internal/reflectlite.ValueOf", "(internal/reflectlite.Value).Type", "(internal/reflectlite.Value).IsNil", "internal/reflectlite.TypeOf", "(internal/reflectlite.Value).Elem", "(internal/reflectlite.Value).Set", "math.FMA"], unfollowed := true, recurses := true, named := ["enclose/enclose.ErrFloat", "enclose/enclose.ErrOrder", "enclose/enclose.ErrRange", "enclose/enclose.ErrZero", "enclose/enclose.ErrNegative", "enclose/enclose.ErrEmpty", "enclose/enclose.ErrName", "enclose/enclose.ErrShape", "enclose/enclose.ErrSure", "errors.errorType"], apart := false, laid := [("errors.errorType", laid_errors_errorType), ("enclose/enclose.ErrFloat", laid_enclose_enclose_ErrFloat), ("enclose/enclose.ErrOrder", laid_enclose_enclose_ErrOrder), ("enclose/enclose.ErrRange", laid_enclose_enclose_ErrRange), ("enclose/enclose.ErrZero", laid_enclose_enclose_ErrZero), ("enclose/enclose.ErrNegative", laid_enclose_enclose_ErrNegative), ("enclose/enclose.ErrEmpty", laid_enclose_enclose_ErrEmpty), ("enclose/enclose.ErrName", laid_enclose_enclose_ErrName), ("enclose/enclose.ErrShape", laid_enclose_enclose_ErrShape), ("enclose/enclose.ErrSure", laid_enclose_enclose_ErrSure)], narrowed := true }
def BalancesUptoSaid : Prop := balancesUptoRow.holds Tryd.pinned (OpenSpec.upto balancesSpec)

end Rows
end Go.Proofs.YtjlibljfpkmpfaaDoor
