/-
  NARROWER THAN 'FOR EVERY INPUT', by the rows' own cells (each row's printed sentence says how): ExprLess: loops, laid · ExprMorgan: loops, laid · TopLeast: laid · TopFails: loops, laid · ExprLeft: loops, laid · GenTears: loops, laid · ShrinkLeast: loops, laid · ShrinkNumber: laid · RunsAgain: loops, laid · RunsFail: loops, laid.
  DERIVED. THE GIVEN ROWS OF THIS SEAT. 10 by the template 'for every input the law returns true; each argument reads behind the call as it read before'; 0 by the template 'total and deterministic' (their statements: YtcecpggkeaohnaaDoorTotals.lean).
  GIVEN WITH THE SEED: the statements are not yours to turn. If you find one false, say at which input.
  Laid BY PROGRAM, IN A SANDBOX (cutbox-rows.mjs): the forced cells as the released guide's own fill.sh prints them over the translation 0f7bd1d830c22502… (all of the seat's roots in one cut). By AI agents, Wed Nov 11 2026. No macro, syntax, notation, axiom, sorry.
-/
import Derived.Test.YtcecpggkeaohnaaDoorChecked
import GoSem.Claim
import GoSem.ClaimJoined
import GoSem.ClaimMapViews
import Derived.JoinedTies
import Derived.KernelRfl
namespace Go.Proofs.YtcecpggkeaohnaaDoor
/- THE CELL 'sum', in the pinned program and in every row, IS THE sha256 OF THE DUMP (.gsa) THAT YtcecpggkeaohnaaDoorProg.lean LOADS. Nothing in Lean hashes anything: it is a label: what it is worth is what the hold of that sum in a sandbox is worth. -/
noncomputable def Tryd.pinned : Pinned := { name := "ytcecpggkeaohnaadoor", sum := "0f7bd1d830c225028de5d49edc0c7c9bdaaf65f10ee22c1655e0047338d19f6f", checked := Tryd.checked }
namespace Rows
def none {H : Type} : Left H := { results := [], args := [] }

/- WHAT THE LISTED PACKAGE-LEVEL VARIABLES READ AS WHEN THE CALL BEGINS. Each datum BY PROGRAM (the guide's laid-datum.mjs) off the statement by which the dump's own 'gosem.cut.vars' lays the variable. In a bare row this is a premise. The card (YtcecpggkeaohnaaDoorCards.lean) ties it to the program's text. -/
def laid_assayer_expr_takes {H : Type} : DataW H := .agg [.lit (.int .i64 (-1)), .lit (.int .i64 0), .lit (.int .i64 0), .lit (.int .i64 0), .lit (.int .i64 0), .lit (.int .i64 2), .lit (.int .i64 2), .lit (.int .i64 2), .lit (.int .i64 2), .lit (.int .i64 1), .lit (.int .i64 2), .lit (.int .i64 2)]
def laid_errors_errorType {H : Type} : DataW H := .iface "internal/reflectlite.rtype" (.agg [.ptr (.lit (.string [101, 114, 114, 111, 114]))])

/-- 'assayerlaw1.ExprLess': WHATEVER THE INPUT: true; the input reads as it did. -/
def exprLessSpec : ChangeSpec := { name := "exprLess", fn := fun _ => fun
  | [d1, d2, d3, d4] => { results := [.lit (.bool true)], args := [d1, d2, d3, d4] }
  | _ => none }
def exprLessRow : OpenClaim := { program := "ytcecpggkeaohnaadoor", sum := "0f7bd1d830c225028de5d49edc0c7c9bdaaf65f10ee22c1655e0047338d19f6f", func := "assayer/assayerlaw1.ExprLess", spec := "exprLess", unfollowed := true, recurses := true, named := ["assayer/expr.takes"], loops := true, apart := false, laid := [("assayer/expr.takes", laid_assayer_expr_takes)] }
def ExprLessSaid : Prop := exprLessRow.holds Tryd.pinned (OpenSpec.ofChange exprLessSpec)

/-- ITS FALSE NEIGHBOUR: 'it returns false'. Refute it at one input. -/
def exprLessWrong : ChangeSpec := { name := "exprLess", fn := fun _ => fun
  | [d1, d2, d3, d4] => { results := [.lit (.bool false)], args := [d1, d2, d3, d4] }
  | _ => none }
def ExprLessWrongFalsely : Prop := exprLessRow.holds Tryd.pinned (OpenSpec.ofChange exprLessWrong)

/-- 'assayerlaw1.ExprMorgan': WHATEVER THE INPUT: true; the input reads as it did. -/
def exprMorganSpec : ChangeSpec := { name := "exprMorgan", fn := fun _ => fun
  | [d1, d2, d3] => { results := [.lit (.bool true)], args := [d1, d2, d3] }
  | _ => none }
def exprMorganRow : OpenClaim := { program := "ytcecpggkeaohnaadoor", sum := "0f7bd1d830c225028de5d49edc0c7c9bdaaf65f10ee22c1655e0047338d19f6f", func := "assayer/assayerlaw1.ExprMorgan", spec := "exprMorgan", unfollowed := true, recurses := true, named := ["assayer/expr.takes"], loops := true, apart := false, laid := [("assayer/expr.takes", laid_assayer_expr_takes)] }
def ExprMorganSaid : Prop := exprMorganRow.holds Tryd.pinned (OpenSpec.ofChange exprMorganSpec)

/-- ITS FALSE NEIGHBOUR: 'it returns false'. Refute it at one input. -/
def exprMorganWrong : ChangeSpec := { name := "exprMorgan", fn := fun _ => fun
  | [d1, d2, d3] => { results := [.lit (.bool false)], args := [d1, d2, d3] }
  | _ => none }
def ExprMorganWrongFalsely : Prop := exprMorganRow.holds Tryd.pinned (OpenSpec.ofChange exprMorganWrong)

/-- 'assayertop.TopLeast': WHATEVER THE INPUT: true; the input reads as it did. -/
def topLeastSpec : ChangeSpec := { name := "topLeast", fn := fun _ => fun
  | [d1, d2, d3, d4] => { results := [.lit (.bool true)], args := [d1, d2, d3, d4] }
  | _ => none }
def topLeastRow : OpenClaim := { program := "ytcecpggkeaohnaadoor", sum := "0f7bd1d830c225028de5d49edc0c7c9bdaaf65f10ee22c1655e0047338d19f6f", func := "assayer/assayertop.TopLeast", spec := "topLeast", unfollowed := true, recurses := true, named := ["assayer/expr.takes"], apart := false, laid := [("assayer/expr.takes", laid_assayer_expr_takes)] }
def TopLeastSaid : Prop := topLeastRow.holds Tryd.pinned (OpenSpec.ofChange topLeastSpec)

/-- ITS FALSE NEIGHBOUR: 'it returns false'. Refute it at one input. -/
def topLeastWrong : ChangeSpec := { name := "topLeast", fn := fun _ => fun
  | [d1, d2, d3, d4] => { results := [.lit (.bool false)], args := [d1, d2, d3, d4] }
  | _ => none }
def TopLeastWrongFalsely : Prop := topLeastRow.holds Tryd.pinned (OpenSpec.ofChange topLeastWrong)

/-- 'assayertop.TopFails': WHATEVER THE INPUT: true; the input reads as it did. -/
def topFailsSpec : ChangeSpec := { name := "topFails", fn := fun _ => fun
  | [d1, d2, d3, d4] => { results := [.lit (.bool true)], args := [d1, d2, d3, d4] }
  | _ => none }
def topFailsRow : OpenClaim := { program := "ytcecpggkeaohnaadoor", sum := "0f7bd1d830c225028de5d49edc0c7c9bdaaf65f10ee22c1655e0047338d19f6f", func := "assayer/assayertop.TopFails", spec := "topFails", inPlace := ["internal/reflectlite.ValueOf", "(internal/reflectlite.Value).Type", "(internal/reflectlite.Value).IsNil", "internal/reflectlite.TypeOf", "(internal/reflectlite.Value).Elem", "(internal/reflectlite.Value).Set"], unfollowed := true, recurses := true, named := ["assayer/expr.takes", "errors.errorType"], loops := true, apart := false, laid := [("errors.errorType", laid_errors_errorType), ("assayer/expr.takes", laid_assayer_expr_takes)] }
def TopFailsSaid : Prop := topFailsRow.holds Tryd.pinned (OpenSpec.ofChange topFailsSpec)

/-- ITS FALSE NEIGHBOUR: 'it returns false'. Refute it at one input. -/
def topFailsWrong : ChangeSpec := { name := "topFails", fn := fun _ => fun
  | [d1, d2, d3, d4] => { results := [.lit (.bool false)], args := [d1, d2, d3, d4] }
  | _ => none }
def TopFailsWrongFalsely : Prop := topFailsRow.holds Tryd.pinned (OpenSpec.ofChange topFailsWrong)

/-- 'assayerlaw1.ExprLeft': WHATEVER THE INPUT: true; the input reads as it did. -/
def exprLeftSpec : ChangeSpec := { name := "exprLeft", fn := fun _ => fun
  | [d1, d2, d3] => { results := [.lit (.bool true)], args := [d1, d2, d3] }
  | _ => none }
def exprLeftRow : OpenClaim := { program := "ytcecpggkeaohnaadoor", sum := "0f7bd1d830c225028de5d49edc0c7c9bdaaf65f10ee22c1655e0047338d19f6f", func := "assayer/assayerlaw1.ExprLeft", spec := "exprLeft", inPlace := ["internal/reflectlite.ValueOf", "(internal/reflectlite.Value).Type", "(internal/reflectlite.Value).IsNil", "internal/reflectlite.TypeOf", "(internal/reflectlite.Value).Elem", "(internal/reflectlite.Value).Set"], unfollowed := true, recurses := true, named := ["assayer/expr.takes", "errors.errorType"], loops := true, apart := false, laid := [("errors.errorType", laid_errors_errorType), ("assayer/expr.takes", laid_assayer_expr_takes)] }
def ExprLeftSaid : Prop := exprLeftRow.holds Tryd.pinned (OpenSpec.ofChange exprLeftSpec)

/-- ITS FALSE NEIGHBOUR: 'it returns false'. Refute it at one input. -/
def exprLeftWrong : ChangeSpec := { name := "exprLeft", fn := fun _ => fun
  | [d1, d2, d3] => { results := [.lit (.bool false)], args := [d1, d2, d3] }
  | _ => none }
def ExprLeftWrongFalsely : Prop := exprLeftRow.holds Tryd.pinned (OpenSpec.ofChange exprLeftWrong)

/-- 'assayerlaw1.GenTears': WHATEVER THE INPUT: true; the input reads as it did. -/
def genTearsSpec : ChangeSpec := { name := "genTears", fn := fun _ => fun
  | [d1, d2, d3, d4] => { results := [.lit (.bool true)], args := [d1, d2, d3, d4] }
  | _ => none }
def genTearsRow : OpenClaim := { program := "ytcecpggkeaohnaadoor", sum := "0f7bd1d830c225028de5d49edc0c7c9bdaaf65f10ee22c1655e0047338d19f6f", func := "assayer/assayerlaw1.GenTears", spec := "genTears", inPlace := ["internal/reflectlite.ValueOf", "(internal/reflectlite.Value).Type", "(internal/reflectlite.Value).IsNil", "internal/reflectlite.TypeOf", "(internal/reflectlite.Value).Elem", "(internal/reflectlite.Value).Set"], unfollowed := true, recurses := true, named := ["errors.errorType"], loops := true, apart := false, laid := [("errors.errorType", laid_errors_errorType)] }
def GenTearsSaid : Prop := genTearsRow.holds Tryd.pinned (OpenSpec.ofChange genTearsSpec)

/-- ITS FALSE NEIGHBOUR: 'it returns false'. Refute it at one input. -/
def genTearsWrong : ChangeSpec := { name := "genTears", fn := fun _ => fun
  | [d1, d2, d3, d4] => { results := [.lit (.bool false)], args := [d1, d2, d3, d4] }
  | _ => none }
def GenTearsWrongFalsely : Prop := genTearsRow.holds Tryd.pinned (OpenSpec.ofChange genTearsWrong)

/-- 'assayerlaw1.ShrinkLeast': WHATEVER THE INPUT: true; the input reads as it did. -/
def shrinkLeastSpec : ChangeSpec := { name := "shrinkLeast", fn := fun _ => fun
  | [d1, d2, d3] => { results := [.lit (.bool true)], args := [d1, d2, d3] }
  | _ => none }
def shrinkLeastRow : OpenClaim := { program := "ytcecpggkeaohnaadoor", sum := "0f7bd1d830c225028de5d49edc0c7c9bdaaf65f10ee22c1655e0047338d19f6f", func := "assayer/assayerlaw1.ShrinkLeast", spec := "shrinkLeast", unfollowed := true, recurses := true, named := ["assayer/expr.takes"], loops := true, apart := false, laid := [("assayer/expr.takes", laid_assayer_expr_takes)] }
def ShrinkLeastSaid : Prop := shrinkLeastRow.holds Tryd.pinned (OpenSpec.ofChange shrinkLeastSpec)

/-- ITS FALSE NEIGHBOUR: 'it returns false'. Refute it at one input. -/
def shrinkLeastWrong : ChangeSpec := { name := "shrinkLeast", fn := fun _ => fun
  | [d1, d2, d3] => { results := [.lit (.bool false)], args := [d1, d2, d3] }
  | _ => none }
def ShrinkLeastWrongFalsely : Prop := shrinkLeastRow.holds Tryd.pinned (OpenSpec.ofChange shrinkLeastWrong)

/-- 'assayerlaw1.ShrinkNumber': WHATEVER THE INPUT: true; the input reads as it did. -/
def shrinkNumberSpec : ChangeSpec := { name := "shrinkNumber", fn := fun _ => fun
  | [d1, d2, d3, d4] => { results := [.lit (.bool true)], args := [d1, d2, d3, d4] }
  | _ => none }
def shrinkNumberRow : OpenClaim := { program := "ytcecpggkeaohnaadoor", sum := "0f7bd1d830c225028de5d49edc0c7c9bdaaf65f10ee22c1655e0047338d19f6f", func := "assayer/assayerlaw1.ShrinkNumber", spec := "shrinkNumber", unfollowed := true, recurses := true, named := ["assayer/expr.takes"], apart := false, laid := [("assayer/expr.takes", laid_assayer_expr_takes)] }
def ShrinkNumberSaid : Prop := shrinkNumberRow.holds Tryd.pinned (OpenSpec.ofChange shrinkNumberSpec)

/-- ITS FALSE NEIGHBOUR: 'it returns false'. Refute it at one input. -/
def shrinkNumberWrong : ChangeSpec := { name := "shrinkNumber", fn := fun _ => fun
  | [d1, d2, d3, d4] => { results := [.lit (.bool false)], args := [d1, d2, d3, d4] }
  | _ => none }
def ShrinkNumberWrongFalsely : Prop := shrinkNumberRow.holds Tryd.pinned (OpenSpec.ofChange shrinkNumberWrong)

/-- 'assayerlaw1.RunsAgain': WHATEVER THE INPUT: true; the input reads as it did. -/
def runsAgainSpec : ChangeSpec := { name := "runsAgain", fn := fun _ => fun
  | [d1, d2, d3, d4, d5] => { results := [.lit (.bool true)], args := [d1, d2, d3, d4, d5] }
  | _ => none }
def runsAgainRow : OpenClaim := { program := "ytcecpggkeaohnaadoor", sum := "0f7bd1d830c225028de5d49edc0c7c9bdaaf65f10ee22c1655e0047338d19f6f", func := "assayer/assayerlaw1.RunsAgain", spec := "runsAgain", unfollowed := true, recurses := true, named := ["assayer/expr.takes"], loops := true, apart := false, laid := [("assayer/expr.takes", laid_assayer_expr_takes)] }
def RunsAgainSaid : Prop := runsAgainRow.holds Tryd.pinned (OpenSpec.ofChange runsAgainSpec)

/-- ITS FALSE NEIGHBOUR: 'it returns false'. Refute it at one input. -/
def runsAgainWrong : ChangeSpec := { name := "runsAgain", fn := fun _ => fun
  | [d1, d2, d3, d4, d5] => { results := [.lit (.bool false)], args := [d1, d2, d3, d4, d5] }
  | _ => none }
def RunsAgainWrongFalsely : Prop := runsAgainRow.holds Tryd.pinned (OpenSpec.ofChange runsAgainWrong)

/-- 'assayerlaw1.RunsFail': WHATEVER THE INPUT: true; the input reads as it did. -/
def runsFailSpec : ChangeSpec := { name := "runsFail", fn := fun _ => fun
  | [d1, d2, d3, d4] => { results := [.lit (.bool true)], args := [d1, d2, d3, d4] }
  | _ => none }
def runsFailRow : OpenClaim := { program := "ytcecpggkeaohnaadoor", sum := "0f7bd1d830c225028de5d49edc0c7c9bdaaf65f10ee22c1655e0047338d19f6f", func := "assayer/assayerlaw1.RunsFail", spec := "runsFail", unfollowed := true, recurses := true, named := ["assayer/expr.takes"], loops := true, apart := false, laid := [("assayer/expr.takes", laid_assayer_expr_takes)] }
def RunsFailSaid : Prop := runsFailRow.holds Tryd.pinned (OpenSpec.ofChange runsFailSpec)

/-- ITS FALSE NEIGHBOUR: 'it returns false'. Refute it at one input. -/
def runsFailWrong : ChangeSpec := { name := "runsFail", fn := fun _ => fun
  | [d1, d2, d3, d4] => { results := [.lit (.bool false)], args := [d1, d2, d3, d4] }
  | _ => none }
def RunsFailWrongFalsely : Prop := runsFailRow.holds Tryd.pinned (OpenSpec.ofChange runsFailWrong)

/- THE SECOND FORM. 'bulk': how many values and letters a reading holds, each counted each time it is reached (what is shared counts as often as it is met; a slice's spare places count too). A statement '..UptoSaid' is the law's where the arguments, and the package variables that the reading takes, are together of bulk at most 1048576: NARROWER than '..Said'. Prove '..Said' where nothing that the law and all that it calls make is longer than what came in: it says more and counts as full. Else prove '..UptoSaid'. A law counts once. -/
mutual
def uptoBulk {H : Type} : DataW H → Nat
  | .lit (.string bytes) => bytes.length + 1
  | .lit _ => 1
  | .nil => 1
  | .ptr d => uptoBulk d + 1
  | .slice elems spare => uptoBulkAll elems + uptoBulkAll spare + 1
  | .agg parts => uptoBulkAll parts + 1
  | .iface _ d => uptoBulk d + 1
  | .map entries => uptoBulkEntries entries + 1
  | .held _ => 1
def uptoBulkAll {H : Type} : List (DataW H) → Nat
  | [] => 0
  | d :: r => uptoBulk d + uptoBulkAll r
def uptoBulkEntries {H : Type} : List (Lit × DataW H) → Nat
  | [] => 0
  | x :: r => uptoBulkEntry x + uptoBulkEntries r
def uptoBulkEntry {H : Type} : Lit × DataW H → Nat
  | (.string bytes, d) => bytes.length + uptoBulk d + 1
  | (_, d) => uptoBulk d + 1
 end
def uptoSmall : (H : Type) → List (DataW H) → Bool := fun _ ds => decide (uptoBulkAll ds ≤ 1048576)
def OpenSpec.upto (s : _root_.Go.ChangeSpec) : _root_.Go.OpenSpec := { _root_.Go.OpenSpec.ofChange s with cond := some uptoSmall }

/-- 'assayerlaw1.ExprLess', WHERE WHAT IT READS IS OF BULK AT MOST 1048576: true; the input reads as it did. -/
def exprLessUptoRow : OpenClaim := { program := "ytcecpggkeaohnaadoor", sum := "0f7bd1d830c225028de5d49edc0c7c9bdaaf65f10ee22c1655e0047338d19f6f", func := "assayer/assayerlaw1.ExprLess", spec := "exprLess", unfollowed := true, recurses := true, named := ["assayer/expr.takes"], loops := true, apart := false, laid := [("assayer/expr.takes", laid_assayer_expr_takes)], narrowed := true }
def ExprLessUptoSaid : Prop := exprLessUptoRow.holds Tryd.pinned (OpenSpec.upto exprLessSpec)

/-- 'assayerlaw1.ExprMorgan', WHERE WHAT IT READS IS OF BULK AT MOST 1048576: true; the input reads as it did. -/
def exprMorganUptoRow : OpenClaim := { program := "ytcecpggkeaohnaadoor", sum := "0f7bd1d830c225028de5d49edc0c7c9bdaaf65f10ee22c1655e0047338d19f6f", func := "assayer/assayerlaw1.ExprMorgan", spec := "exprMorgan", unfollowed := true, recurses := true, named := ["assayer/expr.takes"], loops := true, apart := false, laid := [("assayer/expr.takes", laid_assayer_expr_takes)], narrowed := true }
def ExprMorganUptoSaid : Prop := exprMorganUptoRow.holds Tryd.pinned (OpenSpec.upto exprMorganSpec)

/-- 'assayertop.TopLeast', WHERE WHAT IT READS IS OF BULK AT MOST 1048576: true; the input reads as it did. -/
def topLeastUptoRow : OpenClaim := { program := "ytcecpggkeaohnaadoor", sum := "0f7bd1d830c225028de5d49edc0c7c9bdaaf65f10ee22c1655e0047338d19f6f", func := "assayer/assayertop.TopLeast", spec := "topLeast", unfollowed := true, recurses := true, named := ["assayer/expr.takes"], apart := false, laid := [("assayer/expr.takes", laid_assayer_expr_takes)], narrowed := true }
def TopLeastUptoSaid : Prop := topLeastUptoRow.holds Tryd.pinned (OpenSpec.upto topLeastSpec)

/-- 'assayertop.TopFails', WHERE WHAT IT READS IS OF BULK AT MOST 1048576: true; the input reads as it did. -/
def topFailsUptoRow : OpenClaim := { program := "ytcecpggkeaohnaadoor", sum := "0f7bd1d830c225028de5d49edc0c7c9bdaaf65f10ee22c1655e0047338d19f6f", func := "assayer/assayertop.TopFails", spec := "topFails", inPlace := ["internal/reflectlite.ValueOf", "(internal/reflectlite.Value).Type", "(internal/reflectlite.Value).IsNil", "internal/reflectlite.TypeOf", "(internal/reflectlite.Value).Elem", "(internal/reflectlite.Value).Set"], unfollowed := true, recurses := true, named := ["assayer/expr.takes", "errors.errorType"], loops := true, apart := false, laid := [("errors.errorType", laid_errors_errorType), ("assayer/expr.takes", laid_assayer_expr_takes)], narrowed := true }
def TopFailsUptoSaid : Prop := topFailsUptoRow.holds Tryd.pinned (OpenSpec.upto topFailsSpec)

/-- 'assayerlaw1.ExprLeft', WHERE WHAT IT READS IS OF BULK AT MOST 1048576: true; the input reads as it did. -/
def exprLeftUptoRow : OpenClaim := { program := "ytcecpggkeaohnaadoor", sum := "0f7bd1d830c225028de5d49edc0c7c9bdaaf65f10ee22c1655e0047338d19f6f", func := "assayer/assayerlaw1.ExprLeft", spec := "exprLeft", inPlace := ["internal/reflectlite.ValueOf", "(internal/reflectlite.Value).Type", "(internal/reflectlite.Value).IsNil", "internal/reflectlite.TypeOf", "(internal/reflectlite.Value).Elem", "(internal/reflectlite.Value).Set"], unfollowed := true, recurses := true, named := ["assayer/expr.takes", "errors.errorType"], loops := true, apart := false, laid := [("errors.errorType", laid_errors_errorType), ("assayer/expr.takes", laid_assayer_expr_takes)], narrowed := true }
def ExprLeftUptoSaid : Prop := exprLeftUptoRow.holds Tryd.pinned (OpenSpec.upto exprLeftSpec)

/-- 'assayerlaw1.GenTears', WHERE WHAT IT READS IS OF BULK AT MOST 1048576: true; the input reads as it did. -/
def genTearsUptoRow : OpenClaim := { program := "ytcecpggkeaohnaadoor", sum := "0f7bd1d830c225028de5d49edc0c7c9bdaaf65f10ee22c1655e0047338d19f6f", func := "assayer/assayerlaw1.GenTears", spec := "genTears", inPlace := ["internal/reflectlite.ValueOf", "(internal/reflectlite.Value).Type", "(internal/reflectlite.Value).IsNil", "internal/reflectlite.TypeOf", "(internal/reflectlite.Value).Elem", "(internal/reflectlite.Value).Set"], unfollowed := true, recurses := true, named := ["errors.errorType"], loops := true, apart := false, laid := [("errors.errorType", laid_errors_errorType)], narrowed := true }
def GenTearsUptoSaid : Prop := genTearsUptoRow.holds Tryd.pinned (OpenSpec.upto genTearsSpec)

/-- 'assayerlaw1.ShrinkLeast', WHERE WHAT IT READS IS OF BULK AT MOST 1048576: true; the input reads as it did. -/
def shrinkLeastUptoRow : OpenClaim := { program := "ytcecpggkeaohnaadoor", sum := "0f7bd1d830c225028de5d49edc0c7c9bdaaf65f10ee22c1655e0047338d19f6f", func := "assayer/assayerlaw1.ShrinkLeast", spec := "shrinkLeast", unfollowed := true, recurses := true, named := ["assayer/expr.takes"], loops := true, apart := false, laid := [("assayer/expr.takes", laid_assayer_expr_takes)], narrowed := true }
def ShrinkLeastUptoSaid : Prop := shrinkLeastUptoRow.holds Tryd.pinned (OpenSpec.upto shrinkLeastSpec)

/-- 'assayerlaw1.ShrinkNumber', WHERE WHAT IT READS IS OF BULK AT MOST 1048576: true; the input reads as it did. -/
def shrinkNumberUptoRow : OpenClaim := { program := "ytcecpggkeaohnaadoor", sum := "0f7bd1d830c225028de5d49edc0c7c9bdaaf65f10ee22c1655e0047338d19f6f", func := "assayer/assayerlaw1.ShrinkNumber", spec := "shrinkNumber", unfollowed := true, recurses := true, named := ["assayer/expr.takes"], apart := false, laid := [("assayer/expr.takes", laid_assayer_expr_takes)], narrowed := true }
def ShrinkNumberUptoSaid : Prop := shrinkNumberUptoRow.holds Tryd.pinned (OpenSpec.upto shrinkNumberSpec)

/-- 'assayerlaw1.RunsAgain', WHERE WHAT IT READS IS OF BULK AT MOST 1048576: true; the input reads as it did. -/
def runsAgainUptoRow : OpenClaim := { program := "ytcecpggkeaohnaadoor", sum := "0f7bd1d830c225028de5d49edc0c7c9bdaaf65f10ee22c1655e0047338d19f6f", func := "assayer/assayerlaw1.RunsAgain", spec := "runsAgain", unfollowed := true, recurses := true, named := ["assayer/expr.takes"], loops := true, apart := false, laid := [("assayer/expr.takes", laid_assayer_expr_takes)], narrowed := true }
def RunsAgainUptoSaid : Prop := runsAgainUptoRow.holds Tryd.pinned (OpenSpec.upto runsAgainSpec)

/-- 'assayerlaw1.RunsFail', WHERE WHAT IT READS IS OF BULK AT MOST 1048576: true; the input reads as it did. -/
def runsFailUptoRow : OpenClaim := { program := "ytcecpggkeaohnaadoor", sum := "0f7bd1d830c225028de5d49edc0c7c9bdaaf65f10ee22c1655e0047338d19f6f", func := "assayer/assayerlaw1.RunsFail", spec := "runsFail", unfollowed := true, recurses := true, named := ["assayer/expr.takes"], loops := true, apart := false, laid := [("assayer/expr.takes", laid_assayer_expr_takes)], narrowed := true }
def RunsFailUptoSaid : Prop := runsFailUptoRow.holds Tryd.pinned (OpenSpec.upto runsFailSpec)

end Rows
end Go.Proofs.YtcecpggkeaohnaaDoor
