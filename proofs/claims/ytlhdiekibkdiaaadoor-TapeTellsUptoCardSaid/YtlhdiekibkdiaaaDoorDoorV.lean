/- What the tied rows' lists give where a number's text is read, and a world that meets them. -/
import Derived.Test.YtlhdiekibkdiaaaDoorDoor
import Derived.Test.YtlhdiekibkdiaaaDoorTXS
import Derived.Test.YtlhdiekibkdiaaaDoorOPD
import Derived.Stop.LaidErr
namespace Go.Proofs.YtlhdiekibkdiaaaDoor
set_option maxRecDepth 100000
open Go.ChangeShapes Go.WideShapes Go.ChangeAt Go.RowKit
open Go.ChangeMaps (open_string shut_string)
set_option linter.unusedSimpArgs false
set_option linter.unusedVariables false
theorem gPowType : (Tryd.prog.globals[6]?).map (·.type) = some 187 := by kernel_rfl
theorem cellsPow : Tryd.prog.cellsOf 187 = 20 := by kernel_rfl
theorem cellsU64 : Tryd.prog.cellsOf 159 = 1 := by kernel_rfl
theorem gESyn : Tryd.prog.globalNamed "strconv.ErrSyntax" = some 1 := by kernel_rfl
theorem gESynType : (Tryd.prog.globals[1]?).map (·.type) = some 39 := by kernel_rfl
theorem gERan : Tryd.prog.globalNamed "strconv.ErrRange" = some 2 := by kernel_rfl
theorem gERanType : (Tryd.prog.globals[2]?).map (·.type) = some 39 := by kernel_rfl
theorem cellsErrStr : Tryd.prog.cellsOf 185 = 1 := by kernel_rfl
theorem cellsStr : Tryd.prog.cellsOf 9 = 1 := by kernel_rfl
theorem starE : "*" ++ "errors.errorString" = "*errors.errorString" := by decide
theorem rowErrStr (u : TypeId) (h : Tryd.prog.typeName? 3 u = some "*errors.errorString") : u = 183 :=
  typeName_ptr_named (nm := "errors.errorString") (by rw [starE]; kernel_rfl) (by kernel_rfl) (by decide) u (by rw [starE]; exact h)
theorem pow_of_head {r : List (String × DataW Unit)} {W : World} (h : laidMet Tryd.prog (("internal/strconv.uint64pow10", Rows.laid_internal_strconv_uint64pow10) :: r) W) : PowAt W :=
  Lib.tabIs_of_head gPow gPowType Tryd.underlying187 Tryd.underlying159 cellsU64 cellsPow h
theorem errs_of_head {r : List (String × DataW Unit)} {W : World} (h : laidMet Tryd.prog (("strconv.ErrRange", Rows.laid_strconv_ErrRange) :: ("strconv.ErrSyntax", Rows.laid_strconv_ErrSyntax) :: r) W) : NumErrsAt W := by
  obtain ⟨a0, s0, hv0, -, -, -⟩ := laid_sentinel h gERan gERanType Tryd.underlying39 rowErrStr Tryd.underlying183 Tryd.underlying185 rfl rfl Tryd.underlying9 cellsErrStr cellsStr
  obtain ⟨a1, s1, hv1, -, -, -⟩ := laid_sentinel h.tail gESyn gESynType Tryd.underlying39 rowErrStr Tryd.underlying183 Tryd.underlying185 rfl rfl Tryd.underlying9 cellsErrStr cellsStr
  exact ⟨⟨_, _, by have h0 := World.var?_cell gESyn hv1 0; simpa using h0⟩, ⟨_, _, by have h0 := World.var?_cell gERan hv0 0; simpa using h0⟩⟩
abbrev lDeA : String × DataW Unit := ("math/bits.deBruijn32tab", Rows.laid_math_bits_deBruijn32tab)
abbrev lDeB : String × DataW Unit := ("math/bits.deBruijn64tab", Rows.laid_math_bits_deBruijn64tab)
abbrev lPow : String × DataW Unit := ("internal/strconv.uint64pow10", Rows.laid_internal_strconv_uint64pow10)
abbrev lErr : String × DataW Unit := ("errors.errorType", Rows.laid_errors_errorType)
abbrev lRan : String × DataW Unit := ("strconv.ErrRange", Rows.laid_strconv_ErrRange)
abbrev lSyn : String × DataW Unit := ("strconv.ErrSyntax", Rows.laid_strconv_ErrSyntax)
abbrev lAcc : String × DataW Unit := ("unicode/utf8.acceptRanges", Rows.laid_unicode_utf8_acceptRanges)
abbrev lFir : String × DataW Unit := ("unicode/utf8.first", Rows.laid_unicode_utf8_first)
/-- The list of ValBack. -/
theorem nums_of_laid {W : World} (h : laidMetH Tryd.prog [lDeA, lDeB, lPow, lRan, lSyn] W) : PowAt W ∧ NumErrsAt W :=
  have h' : laidMet Tryd.prog [lDeA, lDeB, lPow, lRan, lSyn] W := h
  ⟨pow_of_head h'.tail.tail, errs_of_head h'.tail.tail.tail⟩
/-- The list of ValNests and ValTells. -/
theorem nums_of_laidE {W : World} (h : laidMetH Tryd.prog [lDeA, lDeB, lPow, lErr, lRan, lSyn] W) : PowAt W ∧ NumErrsAt W ∧ ErrTypeAt W :=
  have h' : laidMet Tryd.prog [lDeA, lDeB, lPow, lRan, lSyn] W ∧ handlesMet Tryd.prog [lErr] W := h
  ⟨pow_of_head h'.1.tail.tail, errs_of_head h'.1.tail.tail.tail, err_of_handles h'.2⟩
/-- The list of TapeBack. -/
theorem nums_of_laidT {W : World} (h : laidMetH Tryd.prog [lDeA, lDeB, lPow, lAcc, lRan, lSyn, lFir] W) : PowAt W ∧ NumErrsAt W :=
  have h' : laidMet Tryd.prog [lDeA, lDeB, lPow, lAcc, lRan, lSyn, lFir] W := h
  ⟨pow_of_head h'.tail.tail, errs_of_head h'.tail.tail.tail.tail⟩
/-- The list of TapeTells. -/
theorem nums_of_laidTE {W : World} (h : laidMetH Tryd.prog [lDeA, lDeB, lPow, lAcc, lErr, lRan, lSyn, lFir] W) : PowAt W ∧ NumErrsAt W ∧ ErrTypeAt W :=
  have h' : laidMet Tryd.prog [lDeA, lDeB, lPow, lAcc, lRan, lSyn, lFir] W ∧ handlesMet Tryd.prog [lErr] W := h
  ⟨pow_of_head h'.1.tail.tail, errs_of_head h'.1.tail.tail.tail.tail, err_of_handles h'.2⟩
def flatA : DataW Unit → List Value
  | .lit (.int k n) => [.int k n]
  | _ => []
def flatB : DataW Unit → List Value
  | .agg ps => ps.flatMap flatA
  | _ => []
def flatC : DataW Unit → List Value
  | .agg ps => ps.flatMap flatB
  | _ => []
def putCells (vs : List Value) : Obj → Obj
  | .cells _ t frozen => .cells vs.toArray t frozen
  | o => o
abbrev synS : ByteArray := { data := #[105, 110, 118, 97, 108, 105, 100, 32, 115, 121, 110, 116, 97, 120] }
abbrev ranS : ByteArray := { data := #[118, 97, 108, 117, 101, 32, 111, 117, 116, 32, 111, 102, 32, 114, 97, 110, 103, 101] }
noncomputable def lowN : Nat := (World.holding Tryd.prog default ⟨#[], #[], []⟩).heap.size
/-- A world for the witness: the settled one, every listed variable's cells laid. -/
noncomputable def laidWorldN (os : Os) : World :=
  let w0 := World.holding Tryd.prog os ⟨#[.cells #[.string ranS] 185, .cells #[.string synS] 185], #[], []⟩
  { w0 with heap := ((((((((w0.heap.modify 0 (putCells [.iface 146 (.agg #[.pointer (some ⟨9, 39, none⟩)])])).modify
      1 (putCells [.iface 183 (.pointer (some ⟨lowN + 1, 0, none⟩))])).modify
      2 (putCells [.iface 183 (.pointer (some ⟨lowN, 0, none⟩))])).modify
      6 (putCells (flatB Rows.laid_internal_strconv_uint64pow10))).modify
      3 (putCells (flatB Rows.laid_unicode_utf8_first))).modify
      4 (putCells (flatC Rows.laid_unicode_utf8_acceptRanges))).modify
      7 (putCells (flatB Rows.laid_math_bits_deBruijn32tab))).modify
      8 (putCells (flatB Rows.laid_math_bits_deBruijn64tab))) }
section
variable {H : Type} {enc : TypeId × Value → H} {W : World} {base b0 : Nat} {spare : Nat → Bool} {held : Bool} {v : Value} {d : DataW H} {p : List MemPlace}
theorem opens_string_upto (hv : Value.okWide Tryd.prog W .any base 9 v) (h : DataW.Trod enc Tryd.prog W b0 spare held 9 v d p) : ∃ s : List UInt8, v = .string ⟨s.toArray⟩ ∧ s.length < Rows.uptoBulk d := by
  obtain ⟨s, rfl, rfl, rfl, _⟩ := open_string Tryd.underlying9 hv h
  exact ⟨s.data.toList, rfl, by simp [Rows.uptoBulk]⟩
theorem opens_int_upto (hv : Value.okWide Tryd.prog W .any base 3 v) (h : DataW.Trod enc Tryd.prog W b0 spare held 3 v d p) : ∃ n, IntAt v n ∧ True := by
  obtain ⟨n, hn⟩ := opens_int hv h
  exact ⟨n, hn, trivial⟩
end
end Go.Proofs.YtlhdiekibkdiaaaDoor
