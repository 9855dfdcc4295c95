/-
  NARROWER THAN 'FOR EVERY INPUT', by the rows' own cells (each row's printed sentence says how): GenMends: loops · GenCounts: loops · GenDraws: loops · RankRises: loops · RoseLess: loops · RankBack: loops.
  DERIVED. THE GIVEN ROWS OF THIS SEAT. 11 by the template 'for every input the law returns true; each argument reads behind the call as it read before'; 0 by the template 'total and deterministic' (their statements: YtocngjpjheockaaTotals.lean).
  GIVEN WITH THE SEED: the statements are not yours to turn. If you find one false, say at which input.
  Laid BY PROGRAM, IN A SANDBOX (cutbox-rows.mjs): the forced cells as the released guide's own fill.sh prints them over the translation 821626ff25ff2e5a… (all of the seat's roots in one cut). By AI agents, Wed Nov 11 2026. No macro, syntax, notation, axiom, sorry.
-/
import Derived.Test.YtocngjpjheockaaChecked
import GoSem.Claim
import GoSem.ClaimJoined
import GoSem.ClaimMapViews
import Derived.JoinedTies
import Derived.KernelRfl
namespace Go.Proofs.Ytocngjpjheockaa
/- THE CELL 'sum', in the pinned program and in every row, IS THE sha256 OF THE DUMP (.gsa) THAT YtocngjpjheockaaProg.lean LOADS. Nothing in Lean hashes anything: it is a label: what it is worth is what the hold of that sum in a sandbox is worth. -/
noncomputable def Try.pinned : Pinned := { name := "ytocngjpjheockaa", sum := "821626ff25ff2e5aff4e502db86fe22979085321370d10426d90432d239e2fef", checked := Try.checked }
namespace Rows
def none {H : Type} : Left H := { results := [], args := [] }

/-- 'assayerlaw1.RngApart': WHATEVER THE INPUT: true; the input reads as it did. -/
def rngApartSpec : ChangeSpec := { name := "rngApart", fn := fun _ => fun
  | [d1, d2, d3] => { results := [.lit (.bool true)], args := [d1, d2, d3] }
  | _ => none }
def rngApartRow : OpenClaim := { program := "ytocngjpjheockaa", sum := "821626ff25ff2e5aff4e502db86fe22979085321370d10426d90432d239e2fef", func := "assayer/assayerlaw1.RngApart", spec := "rngApart", apart := false }
def RngApartSaid : Prop := rngApartRow.holds Try.pinned (OpenSpec.ofChange rngApartSpec)

/-- ITS FALSE NEIGHBOUR: 'it returns false'. Refute it at one input. -/
def rngApartWrong : ChangeSpec := { name := "rngApart", fn := fun _ => fun
  | [d1, d2, d3] => { results := [.lit (.bool false)], args := [d1, d2, d3] }
  | _ => none }
def RngApartWrongFalsely : Prop := rngApartRow.holds Try.pinned (OpenSpec.ofChange rngApartWrong)

/-- 'assayerlaw1.RngRange': WHATEVER THE INPUT: true; the input reads as it did. -/
def rngRangeSpec : ChangeSpec := { name := "rngRange", fn := fun _ => fun
  | [d1, d2, d3] => { results := [.lit (.bool true)], args := [d1, d2, d3] }
  | _ => none }
def rngRangeRow : OpenClaim := { program := "ytocngjpjheockaa", sum := "821626ff25ff2e5aff4e502db86fe22979085321370d10426d90432d239e2fef", func := "assayer/assayerlaw1.RngRange", spec := "rngRange", apart := false }
def RngRangeSaid : Prop := rngRangeRow.holds Try.pinned (OpenSpec.ofChange rngRangeSpec)

/-- ITS FALSE NEIGHBOUR: 'it returns false'. Refute it at one input. -/
def rngRangeWrong : ChangeSpec := { name := "rngRange", fn := fun _ => fun
  | [d1, d2, d3] => { results := [.lit (.bool false)], args := [d1, d2, d3] }
  | _ => none }
def RngRangeWrongFalsely : Prop := rngRangeRow.holds Try.pinned (OpenSpec.ofChange rngRangeWrong)

/-- 'assayerlaw1.Names': WHATEVER THE INPUT: true; the input reads as it did. -/
def namesSpec : ChangeSpec := { name := "names", fn := fun _ => fun
  | [] => { results := [.lit (.bool true)], args := [] }
  | _ => none }
def namesRow : OpenClaim := { program := "ytocngjpjheockaa", sum := "821626ff25ff2e5aff4e502db86fe22979085321370d10426d90432d239e2fef", func := "assayer/assayerlaw1.Names", spec := "names", apart := false }
def NamesSaid : Prop := namesRow.holds Try.pinned (OpenSpec.ofChange namesSpec)

/-- ITS FALSE NEIGHBOUR: 'it returns false'. Refute it at one input. -/
def namesWrong : ChangeSpec := { name := "names", fn := fun _ => fun
  | [] => { results := [.lit (.bool false)], args := [] }
  | _ => none }
def NamesWrongFalsely : Prop := namesRow.holds Try.pinned (OpenSpec.ofChange namesWrong)

/-- 'assayerlaw1.TapeOrder': WHATEVER THE INPUT: true; the input reads as it did. -/
def tapeOrderSpec : ChangeSpec := { name := "tapeOrder", fn := fun _ => fun
  | [d1, d2, d3] => { results := [.lit (.bool true)], args := [d1, d2, d3] }
  | _ => none }
def tapeOrderRow : OpenClaim := { program := "ytocngjpjheockaa", sum := "821626ff25ff2e5aff4e502db86fe22979085321370d10426d90432d239e2fef", func := "assayer/assayerlaw1.TapeOrder", spec := "tapeOrder", apart := false }
def TapeOrderSaid : Prop := tapeOrderRow.holds Try.pinned (OpenSpec.ofChange tapeOrderSpec)

/-- ITS FALSE NEIGHBOUR: 'it returns false'. Refute it at one input. -/
def tapeOrderWrong : ChangeSpec := { name := "tapeOrder", fn := fun _ => fun
  | [d1, d2, d3] => { results := [.lit (.bool false)], args := [d1, d2, d3] }
  | _ => none }
def TapeOrderWrongFalsely : Prop := tapeOrderRow.holds Try.pinned (OpenSpec.ofChange tapeOrderWrong)

/-- 'assayerlaw1.GenMends': WHATEVER THE INPUT: true; the input reads as it did. -/
def genMendsSpec : ChangeSpec := { name := "genMends", fn := fun _ => fun
  | [d1, d2, d3] => { results := [.lit (.bool true)], args := [d1, d2, d3] }
  | _ => none }
def genMendsRow : OpenClaim := { program := "ytocngjpjheockaa", sum := "821626ff25ff2e5aff4e502db86fe22979085321370d10426d90432d239e2fef", func := "assayer/assayerlaw1.GenMends", spec := "genMends", unfollowed := true, recurses := true, loops := true, apart := false }
def GenMendsSaid : Prop := genMendsRow.holds Try.pinned (OpenSpec.ofChange genMendsSpec)

/-- ITS FALSE NEIGHBOUR: 'it returns false'. Refute it at one input. -/
def genMendsWrong : ChangeSpec := { name := "genMends", fn := fun _ => fun
  | [d1, d2, d3] => { results := [.lit (.bool false)], args := [d1, d2, d3] }
  | _ => none }
def GenMendsWrongFalsely : Prop := genMendsRow.holds Try.pinned (OpenSpec.ofChange genMendsWrong)

/-- 'assayerlaw1.GenCounts': WHATEVER THE INPUT: true; the input reads as it did. -/
def genCountsSpec : ChangeSpec := { name := "genCounts", fn := fun _ => fun
  | [d1, d2, d3] => { results := [.lit (.bool true)], args := [d1, d2, d3] }
  | _ => none }
def genCountsRow : OpenClaim := { program := "ytocngjpjheockaa", sum := "821626ff25ff2e5aff4e502db86fe22979085321370d10426d90432d239e2fef", func := "assayer/assayerlaw1.GenCounts", spec := "genCounts", unfollowed := true, recurses := true, loops := true, apart := false }
def GenCountsSaid : Prop := genCountsRow.holds Try.pinned (OpenSpec.ofChange genCountsSpec)

/-- ITS FALSE NEIGHBOUR: 'it returns false'. Refute it at one input. -/
def genCountsWrong : ChangeSpec := { name := "genCounts", fn := fun _ => fun
  | [d1, d2, d3] => { results := [.lit (.bool false)], args := [d1, d2, d3] }
  | _ => none }
def GenCountsWrongFalsely : Prop := genCountsRow.holds Try.pinned (OpenSpec.ofChange genCountsWrong)

/-- 'assayerlaw1.GenDraws': WHATEVER THE INPUT: true; the input reads as it did. -/
def genDrawsSpec : ChangeSpec := { name := "genDraws", fn := fun _ => fun
  | [d1, d2] => { results := [.lit (.bool true)], args := [d1, d2] }
  | _ => none }
def genDrawsRow : OpenClaim := { program := "ytocngjpjheockaa", sum := "821626ff25ff2e5aff4e502db86fe22979085321370d10426d90432d239e2fef", func := "assayer/assayerlaw1.GenDraws", spec := "genDraws", unfollowed := true, recurses := true, loops := true, apart := false }
def GenDrawsSaid : Prop := genDrawsRow.holds Try.pinned (OpenSpec.ofChange genDrawsSpec)

/-- ITS FALSE NEIGHBOUR: 'it returns false'. Refute it at one input. -/
def genDrawsWrong : ChangeSpec := { name := "genDraws", fn := fun _ => fun
  | [d1, d2] => { results := [.lit (.bool false)], args := [d1, d2] }
  | _ => none }
def GenDrawsWrongFalsely : Prop := genDrawsRow.holds Try.pinned (OpenSpec.ofChange genDrawsWrong)

/-- 'assayerlaw1.RankRises': WHATEVER THE INPUT: true; the input reads as it did. -/
def rankRisesSpec : ChangeSpec := { name := "rankRises", fn := fun _ => fun
  | [d1, d2, d3] => { results := [.lit (.bool true)], args := [d1, d2, d3] }
  | _ => none }
def rankRisesRow : OpenClaim := { program := "ytocngjpjheockaa", sum := "821626ff25ff2e5aff4e502db86fe22979085321370d10426d90432d239e2fef", func := "assayer/assayerlaw1.RankRises", spec := "rankRises", unfollowed := true, recurses := true, loops := true, apart := false }
def RankRisesSaid : Prop := rankRisesRow.holds Try.pinned (OpenSpec.ofChange rankRisesSpec)

/-- ITS FALSE NEIGHBOUR: 'it returns false'. Refute it at one input. -/
def rankRisesWrong : ChangeSpec := { name := "rankRises", fn := fun _ => fun
  | [d1, d2, d3] => { results := [.lit (.bool false)], args := [d1, d2, d3] }
  | _ => none }
def RankRisesWrongFalsely : Prop := rankRisesRow.holds Try.pinned (OpenSpec.ofChange rankRisesWrong)

/-- 'assayerlaw1.RoseLess': WHATEVER THE INPUT: true; the input reads as it did. -/
def roseLessSpec : ChangeSpec := { name := "roseLess", fn := fun _ => fun
  | [d1, d2] => { results := [.lit (.bool true)], args := [d1, d2] }
  | _ => none }
def roseLessRow : OpenClaim := { program := "ytocngjpjheockaa", sum := "821626ff25ff2e5aff4e502db86fe22979085321370d10426d90432d239e2fef", func := "assayer/assayerlaw1.RoseLess", spec := "roseLess", unfollowed := true, recurses := true, loops := true, apart := false }
def RoseLessSaid : Prop := roseLessRow.holds Try.pinned (OpenSpec.ofChange roseLessSpec)

/-- ITS FALSE NEIGHBOUR: 'it returns false'. Refute it at one input. -/
def roseLessWrong : ChangeSpec := { name := "roseLess", fn := fun _ => fun
  | [d1, d2] => { results := [.lit (.bool false)], args := [d1, d2] }
  | _ => none }
def RoseLessWrongFalsely : Prop := roseLessRow.holds Try.pinned (OpenSpec.ofChange roseLessWrong)

/-- 'assayerlaw1.RoseOne': WHATEVER THE INPUT: true; the input reads as it did. -/
def roseOneSpec : ChangeSpec := { name := "roseOne", fn := fun _ => fun
  | [d1, d2, d3] => { results := [.lit (.bool true)], args := [d1, d2, d3] }
  | _ => none }
def roseOneRow : OpenClaim := { program := "ytocngjpjheockaa", sum := "821626ff25ff2e5aff4e502db86fe22979085321370d10426d90432d239e2fef", func := "assayer/assayerlaw1.RoseOne", spec := "roseOne", unfollowed := true, recurses := true, apart := false }
def RoseOneSaid : Prop := roseOneRow.holds Try.pinned (OpenSpec.ofChange roseOneSpec)

/-- ITS FALSE NEIGHBOUR: 'it returns false'. Refute it at one input. -/
def roseOneWrong : ChangeSpec := { name := "roseOne", fn := fun _ => fun
  | [d1, d2, d3] => { results := [.lit (.bool false)], args := [d1, d2, d3] }
  | _ => none }
def RoseOneWrongFalsely : Prop := roseOneRow.holds Try.pinned (OpenSpec.ofChange roseOneWrong)

/-- 'assayerlaw1.RankBack': WHATEVER THE INPUT: true; the input reads as it did. -/
def rankBackSpec : ChangeSpec := { name := "rankBack", fn := fun _ => fun
  | [d1, d2, d3] => { results := [.lit (.bool true)], args := [d1, d2, d3] }
  | _ => none }
def rankBackRow : OpenClaim := { program := "ytocngjpjheockaa", sum := "821626ff25ff2e5aff4e502db86fe22979085321370d10426d90432d239e2fef", func := "assayer/assayerlaw1.RankBack", spec := "rankBack", unfollowed := true, recurses := true, loops := true, apart := false }
def RankBackSaid : Prop := rankBackRow.holds Try.pinned (OpenSpec.ofChange rankBackSpec)

/-- ITS FALSE NEIGHBOUR: 'it returns false'. Refute it at one input. -/
def rankBackWrong : ChangeSpec := { name := "rankBack", fn := fun _ => fun
  | [d1, d2, d3] => { results := [.lit (.bool false)], args := [d1, d2, d3] }
  | _ => none }
def RankBackWrongFalsely : Prop := rankBackRow.holds Try.pinned (OpenSpec.ofChange rankBackWrong)

/- THE SECOND FORM. 'bulk': how many values and letters a reading holds, each counted each time it is reached (what is shared counts as often as it is met; a slice's spare places count too). A statement '..UptoSaid' is the law's where the arguments, and the package variables that the reading takes, are together of bulk at most 1048576: NARROWER than '..Said'. Prove '..Said' where nothing that the law and all that it calls make is longer than what came in: it says more and counts as full. Else prove '..UptoSaid'. A law counts once. -/
mutual
def uptoBulk {H : Type} : DataW H → Nat
  | .lit (.string bytes) => bytes.length + 1
  | .lit _ => 1
  | .nil => 1
  | .ptr d => uptoBulk d + 1
  | .slice elems spare => uptoBulkAll elems + uptoBulkAll spare + 1
  | .agg parts => uptoBulkAll parts + 1
  | .iface _ d => uptoBulk d + 1
  | .map entries => uptoBulkEntries entries + 1
  | .held _ => 1
def uptoBulkAll {H : Type} : List (DataW H) → Nat
  | [] => 0
  | d :: r => uptoBulk d + uptoBulkAll r
def uptoBulkEntries {H : Type} : List (Lit × DataW H) → Nat
  | [] => 0
  | x :: r => uptoBulkEntry x + uptoBulkEntries r
def uptoBulkEntry {H : Type} : Lit × DataW H → Nat
  | (.string bytes, d) => bytes.length + uptoBulk d + 1
  | (_, d) => uptoBulk d + 1
 end
def uptoSmall : (H : Type) → List (DataW H) → Bool := fun _ ds => decide (uptoBulkAll ds ≤ 1048576)
def OpenSpec.upto (s : _root_.Go.ChangeSpec) : _root_.Go.OpenSpec := { _root_.Go.OpenSpec.ofChange s with cond := some uptoSmall }

/-- 'assayerlaw1.RngApart', WHERE WHAT IT READS IS OF BULK AT MOST 1048576: true; the input reads as it did. -/
def rngApartUptoRow : OpenClaim := { program := "ytocngjpjheockaa", sum := "821626ff25ff2e5aff4e502db86fe22979085321370d10426d90432d239e2fef", func := "assayer/assayerlaw1.RngApart", spec := "rngApart", apart := false, narrowed := true }
def RngApartUptoSaid : Prop := rngApartUptoRow.holds Try.pinned (OpenSpec.upto rngApartSpec)

/-- 'assayerlaw1.RngRange', WHERE WHAT IT READS IS OF BULK AT MOST 1048576: true; the input reads as it did. -/
def rngRangeUptoRow : OpenClaim := { program := "ytocngjpjheockaa", sum := "821626ff25ff2e5aff4e502db86fe22979085321370d10426d90432d239e2fef", func := "assayer/assayerlaw1.RngRange", spec := "rngRange", apart := false, narrowed := true }
def RngRangeUptoSaid : Prop := rngRangeUptoRow.holds Try.pinned (OpenSpec.upto rngRangeSpec)

/-- 'assayerlaw1.Names', WHERE WHAT IT READS IS OF BULK AT MOST 1048576: true; the input reads as it did. -/
def namesUptoRow : OpenClaim := { program := "ytocngjpjheockaa", sum := "821626ff25ff2e5aff4e502db86fe22979085321370d10426d90432d239e2fef", func := "assayer/assayerlaw1.Names", spec := "names", apart := false, narrowed := true }
def NamesUptoSaid : Prop := namesUptoRow.holds Try.pinned (OpenSpec.upto namesSpec)

/-- 'assayerlaw1.TapeOrder', WHERE WHAT IT READS IS OF BULK AT MOST 1048576: true; the input reads as it did. -/
def tapeOrderUptoRow : OpenClaim := { program := "ytocngjpjheockaa", sum := "821626ff25ff2e5aff4e502db86fe22979085321370d10426d90432d239e2fef", func := "assayer/assayerlaw1.TapeOrder", spec := "tapeOrder", apart := false, narrowed := true }
def TapeOrderUptoSaid : Prop := tapeOrderUptoRow.holds Try.pinned (OpenSpec.upto tapeOrderSpec)

/-- 'assayerlaw1.GenMends', WHERE WHAT IT READS IS OF BULK AT MOST 1048576: true; the input reads as it did. -/
def genMendsUptoRow : OpenClaim := { program := "ytocngjpjheockaa", sum := "821626ff25ff2e5aff4e502db86fe22979085321370d10426d90432d239e2fef", func := "assayer/assayerlaw1.GenMends", spec := "genMends", unfollowed := true, recurses := true, loops := true, apart := false, narrowed := true }
def GenMendsUptoSaid : Prop := genMendsUptoRow.holds Try.pinned (OpenSpec.upto genMendsSpec)

/-- 'assayerlaw1.GenCounts', WHERE WHAT IT READS IS OF BULK AT MOST 1048576: true; the input reads as it did. -/
def genCountsUptoRow : OpenClaim := { program := "ytocngjpjheockaa", sum := "821626ff25ff2e5aff4e502db86fe22979085321370d10426d90432d239e2fef", func := "assayer/assayerlaw1.GenCounts", spec := "genCounts", unfollowed := true, recurses := true, loops := true, apart := false, narrowed := true }
def GenCountsUptoSaid : Prop := genCountsUptoRow.holds Try.pinned (OpenSpec.upto genCountsSpec)

/-- 'assayerlaw1.GenDraws', WHERE WHAT IT READS IS OF BULK AT MOST 1048576: true; the input reads as it did. -/
def genDrawsUptoRow : OpenClaim := { program := "ytocngjpjheockaa", sum := "821626ff25ff2e5aff4e502db86fe22979085321370d10426d90432d239e2fef", func := "assayer/assayerlaw1.GenDraws", spec := "genDraws", unfollowed := true, recurses := true, loops := true, apart := false, narrowed := true }
def GenDrawsUptoSaid : Prop := genDrawsUptoRow.holds Try.pinned (OpenSpec.upto genDrawsSpec)

/-- 'assayerlaw1.RankRises', WHERE WHAT IT READS IS OF BULK AT MOST 1048576: true; the input reads as it did. -/
def rankRisesUptoRow : OpenClaim := { program := "ytocngjpjheockaa", sum := "821626ff25ff2e5aff4e502db86fe22979085321370d10426d90432d239e2fef", func := "assayer/assayerlaw1.RankRises", spec := "rankRises", unfollowed := true, recurses := true, loops := true, apart := false, narrowed := true }
def RankRisesUptoSaid : Prop := rankRisesUptoRow.holds Try.pinned (OpenSpec.upto rankRisesSpec)

/-- 'assayerlaw1.RoseLess', WHERE WHAT IT READS IS OF BULK AT MOST 1048576: true; the input reads as it did. -/
def roseLessUptoRow : OpenClaim := { program := "ytocngjpjheockaa", sum := "821626ff25ff2e5aff4e502db86fe22979085321370d10426d90432d239e2fef", func := "assayer/assayerlaw1.RoseLess", spec := "roseLess", unfollowed := true, recurses := true, loops := true, apart := false, narrowed := true }
def RoseLessUptoSaid : Prop := roseLessUptoRow.holds Try.pinned (OpenSpec.upto roseLessSpec)

/-- 'assayerlaw1.RoseOne', WHERE WHAT IT READS IS OF BULK AT MOST 1048576: true; the input reads as it did. -/
def roseOneUptoRow : OpenClaim := { program := "ytocngjpjheockaa", sum := "821626ff25ff2e5aff4e502db86fe22979085321370d10426d90432d239e2fef", func := "assayer/assayerlaw1.RoseOne", spec := "roseOne", unfollowed := true, recurses := true, apart := false, narrowed := true }
def RoseOneUptoSaid : Prop := roseOneUptoRow.holds Try.pinned (OpenSpec.upto roseOneSpec)

/-- 'assayerlaw1.RankBack', WHERE WHAT IT READS IS OF BULK AT MOST 1048576: true; the input reads as it did. -/
def rankBackUptoRow : OpenClaim := { program := "ytocngjpjheockaa", sum := "821626ff25ff2e5aff4e502db86fe22979085321370d10426d90432d239e2fef", func := "assayer/assayerlaw1.RankBack", spec := "rankBack", unfollowed := true, recurses := true, loops := true, apart := false, narrowed := true }
def RankBackUptoSaid : Prop := rankBackUptoRow.holds Try.pinned (OpenSpec.upto rankBackSpec)

end Rows
end Go.Proofs.Ytocngjpjheockaa
