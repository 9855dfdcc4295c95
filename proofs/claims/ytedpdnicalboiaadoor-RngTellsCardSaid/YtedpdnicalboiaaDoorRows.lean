/-
  NARROWER THAN 'FOR EVERY INPUT', by the rows' own cells (each row's printed sentence says how): RngTells: laid · ExprTells: loops, laid · GenTells: loops, laid · RoseTells: loops, laid · RankTells: loops, laid · ShrinkTells: loops, laid.
  DERIVED. THE GIVEN ROWS OF THIS SEAT. 6 by the template 'for every input the law returns true; each argument reads behind the call as it read before'; 0 by the template 'total and deterministic' (their statements: YtedpdnicalboiaaDoorTotals.lean).
  GIVEN WITH THE SEED: the statements are not yours to turn. If you find one false, say at which input.
  Laid BY PROGRAM, IN A SANDBOX (cutbox-rows.mjs): the forced cells as the released guide's own fill.sh prints them over the translation e39eb98d6f8a067e… (all of the seat's roots in one cut). By AI agents, Wed Nov 11 2026. No macro, syntax, notation, axiom, sorry.
-/
import Derived.Test.YtedpdnicalboiaaDoorChecked
import GoSem.Claim
import GoSem.ClaimJoined
import GoSem.ClaimMapViews
import Derived.JoinedTies
import Derived.KernelRfl
namespace Go.Proofs.YtedpdnicalboiaaDoor
/- THE CELL 'sum', in the pinned program and in every row, IS THE sha256 OF THE DUMP (.gsa) THAT YtedpdnicalboiaaDoorProg.lean LOADS. Nothing in Lean hashes anything: it is a label: what it is worth is what the hold of that sum in a sandbox is worth. -/
noncomputable def Tryd.pinned : Pinned := { name := "ytedpdnicalboiaadoor", sum := "e39eb98d6f8a067e8af3655f97d67bbcde62a369c55876a36481d1621eab19c5", checked := Tryd.checked }
namespace Rows
def none {H : Type} : Left H := { results := [], args := [] }

/- WHAT THE LISTED PACKAGE-LEVEL VARIABLES READ AS WHEN THE CALL BEGINS. Each datum BY PROGRAM (the guide's laid-datum.mjs) off the statement by which the dump's own 'gosem.cut.vars' lays the variable. In a bare row this is a premise. The card (YtedpdnicalboiaaDoorCards.lean) ties it to the program's text. -/
def laid_errors_errorType {H : Type} : DataW H := .iface "internal/reflectlite.rtype" (.agg [.ptr (.lit (.string [101, 114, 114, 111, 114]))])
def laid_assayer_expr_takes {H : Type} : DataW H := .agg [.lit (.int .i64 (-1)), .lit (.int .i64 0), .lit (.int .i64 0), .lit (.int .i64 0), .lit (.int .i64 0), .lit (.int .i64 2), .lit (.int .i64 2), .lit (.int .i64 2), .lit (.int .i64 2), .lit (.int .i64 1), .lit (.int .i64 2), .lit (.int .i64 2)]

/-- 'assayerlaw1.RngTells': WHATEVER THE INPUT: true; the input reads as it did. -/
def rngTellsSpec : ChangeSpec := { name := "rngTells", fn := fun _ => fun
  | [d1, d2] => { results := [.lit (.bool true)], args := [d1, d2] }
  | _ => none }
def rngTellsRow : OpenClaim := { program := "ytedpdnicalboiaadoor", sum := "e39eb98d6f8a067e8af3655f97d67bbcde62a369c55876a36481d1621eab19c5", func := "assayer/assayerlaw1.RngTells", spec := "rngTells", inPlace := ["internal/reflectlite.ValueOf", "(internal/reflectlite.Value).Type", "(internal/reflectlite.Value).IsNil", "internal/reflectlite.TypeOf", "(internal/reflectlite.Value).Elem", "(internal/reflectlite.Value).Set"], unfollowed := true, recurses := true, named := ["errors.errorType"], apart := false, laid := [("errors.errorType", laid_errors_errorType)] }
def RngTellsSaid : Prop := rngTellsRow.holds Tryd.pinned (OpenSpec.ofChange rngTellsSpec)

/-- ITS FALSE NEIGHBOUR: 'it returns false'. Refute it at one input. -/
def rngTellsWrong : ChangeSpec := { name := "rngTells", fn := fun _ => fun
  | [d1, d2] => { results := [.lit (.bool false)], args := [d1, d2] }
  | _ => none }
def RngTellsWrongFalsely : Prop := rngTellsRow.holds Tryd.pinned (OpenSpec.ofChange rngTellsWrong)

/-- 'assayerlaw1.ExprTells': WHATEVER THE INPUT: true; the input reads as it did. -/
def exprTellsSpec : ChangeSpec := { name := "exprTells", fn := fun _ => fun
  | [d1, d2] => { results := [.lit (.bool true)], args := [d1, d2] }
  | _ => none }
def exprTellsRow : OpenClaim := { program := "ytedpdnicalboiaadoor", sum := "e39eb98d6f8a067e8af3655f97d67bbcde62a369c55876a36481d1621eab19c5", func := "assayer/assayerlaw1.ExprTells", spec := "exprTells", inPlace := ["internal/reflectlite.ValueOf", "(internal/reflectlite.Value).Type", "(internal/reflectlite.Value).IsNil", "internal/reflectlite.TypeOf", "(internal/reflectlite.Value).Elem", "(internal/reflectlite.Value).Set"], unfollowed := true, recurses := true, named := ["assayer/expr.takes", "errors.errorType"], loops := true, apart := false, laid := [("errors.errorType", laid_errors_errorType), ("assayer/expr.takes", laid_assayer_expr_takes)] }
def ExprTellsSaid : Prop := exprTellsRow.holds Tryd.pinned (OpenSpec.ofChange exprTellsSpec)

/-- ITS FALSE NEIGHBOUR: 'it returns false'. Refute it at one input. -/
def exprTellsWrong : ChangeSpec := { name := "exprTells", fn := fun _ => fun
  | [d1, d2] => { results := [.lit (.bool false)], args := [d1, d2] }
  | _ => none }
def ExprTellsWrongFalsely : Prop := exprTellsRow.holds Tryd.pinned (OpenSpec.ofChange exprTellsWrong)

/-- 'assayerlaw1.GenTells': WHATEVER THE INPUT: true; the input reads as it did. -/
def genTellsSpec : ChangeSpec := { name := "genTells", fn := fun _ => fun
  | [d1, d2, d3] => { results := [.lit (.bool true)], args := [d1, d2, d3] }
  | _ => none }
def genTellsRow : OpenClaim := { program := "ytedpdnicalboiaadoor", sum := "e39eb98d6f8a067e8af3655f97d67bbcde62a369c55876a36481d1621eab19c5", func := "assayer/assayerlaw1.GenTells", spec := "genTells", inPlace := ["internal/reflectlite.ValueOf", "(internal/reflectlite.Value).Type", "(internal/reflectlite.Value).IsNil", "internal/reflectlite.TypeOf", "(internal/reflectlite.Value).Elem", "(internal/reflectlite.Value).Set"], unfollowed := true, recurses := true, named := ["errors.errorType"], loops := true, apart := false, laid := [("errors.errorType", laid_errors_errorType)] }
def GenTellsSaid : Prop := genTellsRow.holds Tryd.pinned (OpenSpec.ofChange genTellsSpec)

/-- ITS FALSE NEIGHBOUR: 'it returns false'. Refute it at one input. -/
def genTellsWrong : ChangeSpec := { name := "genTells", fn := fun _ => fun
  | [d1, d2, d3] => { results := [.lit (.bool false)], args := [d1, d2, d3] }
  | _ => none }
def GenTellsWrongFalsely : Prop := genTellsRow.holds Tryd.pinned (OpenSpec.ofChange genTellsWrong)

/-- 'assayerlaw1.RoseTells': WHATEVER THE INPUT: true; the input reads as it did. -/
def roseTellsSpec : ChangeSpec := { name := "roseTells", fn := fun _ => fun
  | [d1, d2] => { results := [.lit (.bool true)], args := [d1, d2] }
  | _ => none }
def roseTellsRow : OpenClaim := { program := "ytedpdnicalboiaadoor", sum := "e39eb98d6f8a067e8af3655f97d67bbcde62a369c55876a36481d1621eab19c5", func := "assayer/assayerlaw1.RoseTells", spec := "roseTells", inPlace := ["internal/reflectlite.ValueOf", "(internal/reflectlite.Value).Type", "(internal/reflectlite.Value).IsNil", "internal/reflectlite.TypeOf", "(internal/reflectlite.Value).Elem", "(internal/reflectlite.Value).Set"], unfollowed := true, recurses := true, named := ["errors.errorType"], loops := true, apart := false, laid := [("errors.errorType", laid_errors_errorType)] }
def RoseTellsSaid : Prop := roseTellsRow.holds Tryd.pinned (OpenSpec.ofChange roseTellsSpec)

/-- ITS FALSE NEIGHBOUR: 'it returns false'. Refute it at one input. -/
def roseTellsWrong : ChangeSpec := { name := "roseTells", fn := fun _ => fun
  | [d1, d2] => { results := [.lit (.bool false)], args := [d1, d2] }
  | _ => none }
def RoseTellsWrongFalsely : Prop := roseTellsRow.holds Tryd.pinned (OpenSpec.ofChange roseTellsWrong)

/-- 'assayerlaw1.RankTells': WHATEVER THE INPUT: true; the input reads as it did. -/
def rankTellsSpec : ChangeSpec := { name := "rankTells", fn := fun _ => fun
  | [d1, d2, d3] => { results := [.lit (.bool true)], args := [d1, d2, d3] }
  | _ => none }
def rankTellsRow : OpenClaim := { program := "ytedpdnicalboiaadoor", sum := "e39eb98d6f8a067e8af3655f97d67bbcde62a369c55876a36481d1621eab19c5", func := "assayer/assayerlaw1.RankTells", spec := "rankTells", inPlace := ["internal/reflectlite.ValueOf", "(internal/reflectlite.Value).Type", "(internal/reflectlite.Value).IsNil", "internal/reflectlite.TypeOf", "(internal/reflectlite.Value).Elem", "(internal/reflectlite.Value).Set"], unfollowed := true, recurses := true, named := ["errors.errorType"], loops := true, apart := false, laid := [("errors.errorType", laid_errors_errorType)] }
def RankTellsSaid : Prop := rankTellsRow.holds Tryd.pinned (OpenSpec.ofChange rankTellsSpec)

/-- ITS FALSE NEIGHBOUR: 'it returns false'. Refute it at one input. -/
def rankTellsWrong : ChangeSpec := { name := "rankTells", fn := fun _ => fun
  | [d1, d2, d3] => { results := [.lit (.bool false)], args := [d1, d2, d3] }
  | _ => none }
def RankTellsWrongFalsely : Prop := rankTellsRow.holds Tryd.pinned (OpenSpec.ofChange rankTellsWrong)

/-- 'assayerlaw1.ShrinkTells': WHATEVER THE INPUT: true; the input reads as it did. -/
def shrinkTellsSpec : ChangeSpec := { name := "shrinkTells", fn := fun _ => fun
  | [d1, d2, d3] => { results := [.lit (.bool true)], args := [d1, d2, d3] }
  | _ => none }
def shrinkTellsRow : OpenClaim := { program := "ytedpdnicalboiaadoor", sum := "e39eb98d6f8a067e8af3655f97d67bbcde62a369c55876a36481d1621eab19c5", func := "assayer/assayerlaw1.ShrinkTells", spec := "shrinkTells", inPlace := ["internal/reflectlite.ValueOf", "(internal/reflectlite.Value).Type", "(internal/reflectlite.Value).IsNil", "internal/reflectlite.TypeOf", "(internal/reflectlite.Value).Elem", "(internal/reflectlite.Value).Set"], unfollowed := true, recurses := true, named := ["assayer/expr.takes", "errors.errorType"], loops := true, apart := false, laid := [("errors.errorType", laid_errors_errorType), ("assayer/expr.takes", laid_assayer_expr_takes)] }
def ShrinkTellsSaid : Prop := shrinkTellsRow.holds Tryd.pinned (OpenSpec.ofChange shrinkTellsSpec)

/-- ITS FALSE NEIGHBOUR: 'it returns false'. Refute it at one input. -/
def shrinkTellsWrong : ChangeSpec := { name := "shrinkTells", fn := fun _ => fun
  | [d1, d2, d3] => { results := [.lit (.bool false)], args := [d1, d2, d3] }
  | _ => none }
def ShrinkTellsWrongFalsely : Prop := shrinkTellsRow.holds Tryd.pinned (OpenSpec.ofChange shrinkTellsWrong)

/- THE SECOND FORM. 'bulk': how many values and letters a reading holds, each counted each time it is reached (what is shared counts as often as it is met; a slice's spare places count too). A statement '..UptoSaid' is the law's where the arguments, and the package variables that the reading takes, are together of bulk at most 1048576: NARROWER than '..Said'. Prove '..Said' where nothing that the law and all that it calls make is longer than what came in: it says more and counts as full. Else prove '..UptoSaid'. A law counts once. -/
mutual
def uptoBulk {H : Type} : DataW H → Nat
  | .lit (.string bytes) => bytes.length + 1
  | .lit _ => 1
  | .nil => 1
  | .ptr d => uptoBulk d + 1
  | .slice elems spare => uptoBulkAll elems + uptoBulkAll spare + 1
  | .agg parts => uptoBulkAll parts + 1
  | .iface _ d => uptoBulk d + 1
  | .map entries => uptoBulkEntries entries + 1
  | .held _ => 1
def uptoBulkAll {H : Type} : List (DataW H) → Nat
  | [] => 0
  | d :: r => uptoBulk d + uptoBulkAll r
def uptoBulkEntries {H : Type} : List (Lit × DataW H) → Nat
  | [] => 0
  | x :: r => uptoBulkEntry x + uptoBulkEntries r
def uptoBulkEntry {H : Type} : Lit × DataW H → Nat
  | (.string bytes, d) => bytes.length + uptoBulk d + 1
  | (_, d) => uptoBulk d + 1
 end
def uptoSmall : (H : Type) → List (DataW H) → Bool := fun _ ds => decide (uptoBulkAll ds ≤ 1048576)
def OpenSpec.upto (s : _root_.Go.ChangeSpec) : _root_.Go.OpenSpec := { _root_.Go.OpenSpec.ofChange s with cond := some uptoSmall }

/-- 'assayerlaw1.RngTells', WHERE WHAT IT READS IS OF BULK AT MOST 1048576: true; the input reads as it did. -/
def rngTellsUptoRow : OpenClaim := { program := "ytedpdnicalboiaadoor", sum := "e39eb98d6f8a067e8af3655f97d67bbcde62a369c55876a36481d1621eab19c5", func := "assayer/assayerlaw1.RngTells", spec := "rngTells", inPlace := ["internal/reflectlite.ValueOf", "(internal/reflectlite.Value).Type", "(internal/reflectlite.Value).IsNil", "internal/reflectlite.TypeOf", "(internal/reflectlite.Value).Elem", "(internal/reflectlite.Value).Set"], unfollowed := true, recurses := true, named := ["errors.errorType"], apart := false, laid := [("errors.errorType", laid_errors_errorType)], narrowed := true }
def RngTellsUptoSaid : Prop := rngTellsUptoRow.holds Tryd.pinned (OpenSpec.upto rngTellsSpec)

/-- 'assayerlaw1.ExprTells', WHERE WHAT IT READS IS OF BULK AT MOST 1048576: true; the input reads as it did. -/
def exprTellsUptoRow : OpenClaim := { program := "ytedpdnicalboiaadoor", sum := "e39eb98d6f8a067e8af3655f97d67bbcde62a369c55876a36481d1621eab19c5", func := "assayer/assayerlaw1.ExprTells", spec := "exprTells", inPlace := ["internal/reflectlite.ValueOf", "(internal/reflectlite.Value).Type", "(internal/reflectlite.Value).IsNil", "internal/reflectlite.TypeOf", "(internal/reflectlite.Value).Elem", "(internal/reflectlite.Value).Set"], unfollowed := true, recurses := true, named := ["assayer/expr.takes", "errors.errorType"], loops := true, apart := false, laid := [("errors.errorType", laid_errors_errorType), ("assayer/expr.takes", laid_assayer_expr_takes)], narrowed := true }
def ExprTellsUptoSaid : Prop := exprTellsUptoRow.holds Tryd.pinned (OpenSpec.upto exprTellsSpec)

/-- 'assayerlaw1.GenTells', WHERE WHAT IT READS IS OF BULK AT MOST 1048576: true; the input reads as it did. -/
def genTellsUptoRow : OpenClaim := { program := "ytedpdnicalboiaadoor", sum := "e39eb98d6f8a067e8af3655f97d67bbcde62a369c55876a36481d1621eab19c5", func := "assayer/assayerlaw1.GenTells", spec := "genTells", inPlace := ["internal/reflectlite.ValueOf", "(internal/reflectlite.Value).Type", "(internal/reflectlite.Value).IsNil", "internal/reflectlite.TypeOf", "(internal/reflectlite.Value).Elem", "(internal/reflectlite.Value).Set"], unfollowed := true, recurses := true, named := ["errors.errorType"], loops := true, apart := false, laid := [("errors.errorType", laid_errors_errorType)], narrowed := true }
def GenTellsUptoSaid : Prop := genTellsUptoRow.holds Tryd.pinned (OpenSpec.upto genTellsSpec)

/-- 'assayerlaw1.RoseTells', WHERE WHAT IT READS IS OF BULK AT MOST 1048576: true; the input reads as it did. -/
def roseTellsUptoRow : OpenClaim := { program := "ytedpdnicalboiaadoor", sum := "e39eb98d6f8a067e8af3655f97d67bbcde62a369c55876a36481d1621eab19c5", func := "assayer/assayerlaw1.RoseTells", spec := "roseTells", inPlace := ["internal/reflectlite.ValueOf", "(internal/reflectlite.Value).Type", "(internal/reflectlite.Value).IsNil", "internal/reflectlite.TypeOf", "(internal/reflectlite.Value).Elem", "(internal/reflectlite.Value).Set"], unfollowed := true, recurses := true, named := ["errors.errorType"], loops := true, apart := false, laid := [("errors.errorType", laid_errors_errorType)], narrowed := true }
def RoseTellsUptoSaid : Prop := roseTellsUptoRow.holds Tryd.pinned (OpenSpec.upto roseTellsSpec)

/-- 'assayerlaw1.RankTells', WHERE WHAT IT READS IS OF BULK AT MOST 1048576: true; the input reads as it did. -/
def rankTellsUptoRow : OpenClaim := { program := "ytedpdnicalboiaadoor", sum := "e39eb98d6f8a067e8af3655f97d67bbcde62a369c55876a36481d1621eab19c5", func := "assayer/assayerlaw1.RankTells", spec := "rankTells", inPlace := ["internal/reflectlite.ValueOf", "(internal/reflectlite.Value).Type", "(internal/reflectlite.Value).IsNil", "internal/reflectlite.TypeOf", "(internal/reflectlite.Value).Elem", "(internal/reflectlite.Value).Set"], unfollowed := true, recurses := true, named := ["errors.errorType"], loops := true, apart := false, laid := [("errors.errorType", laid_errors_errorType)], narrowed := true }
def RankTellsUptoSaid : Prop := rankTellsUptoRow.holds Tryd.pinned (OpenSpec.upto rankTellsSpec)

/-- 'assayerlaw1.ShrinkTells', WHERE WHAT IT READS IS OF BULK AT MOST 1048576: true; the input reads as it did. -/
def shrinkTellsUptoRow : OpenClaim := { program := "ytedpdnicalboiaadoor", sum := "e39eb98d6f8a067e8af3655f97d67bbcde62a369c55876a36481d1621eab19c5", func := "assayer/assayerlaw1.ShrinkTells", spec := "shrinkTells", inPlace := ["internal/reflectlite.ValueOf", "(internal/reflectlite.Value).Type", "(internal/reflectlite.Value).IsNil", "internal/reflectlite.TypeOf", "(internal/reflectlite.Value).Elem", "(internal/reflectlite.Value).Set"], unfollowed := true, recurses := true, named := ["assayer/expr.takes", "errors.errorType"], loops := true, apart := false, laid := [("errors.errorType", laid_errors_errorType), ("assayer/expr.takes", laid_assayer_expr_takes)], narrowed := true }
def ShrinkTellsUptoSaid : Prop := shrinkTellsUptoRow.holds Tryd.pinned (OpenSpec.upto shrinkTellsSpec)

end Rows
end Go.Proofs.YtedpdnicalboiaaDoor
