/- The walks through strings.SplitSeq, and through the iterator that it hands back. -/
import Derived.Test.YtlhdiekibkdiaaaDoorRSQ
import Derived.Test.YtlhdiekibkdiaaaDoorTXS
import Derived.Test.YtlhdiekibkdiaaaDoorProg
namespace Go.Proofs.YtlhdiekibkdiaaaDoor
set_option maxRecDepth 100000
open Go Go.RowKit Go.Shelf
set_option linter.unusedSimpArgs false
set_option linter.unusedVariables false
attribute [local go_sem] Oper.semAt_some
theorem idx46 (s : List UInt8) : (Lib.indexByte s 46 = -1 ∧ NoDot s) ∨ ∃ a r, s = a ++ 46 :: r ∧ NoDot a ∧ Lib.indexByte s 46 = (a.length : Int) := by
  induction s with
  | nil => exact .inl ⟨rfl, fun c hc => by simp at hc⟩
  | cons b s ih =>
    by_cases hb : b = 46
    · subst hb
      exact .inr ⟨[], s, rfl, fun c hc => by simp at hc, by simp [Lib.indexByte]⟩
    · have hbf : (b == 46) = false := by simpa using hb
      rcases ih with ⟨h1, h2⟩ | ⟨a, r, rfl, h2, h3⟩
      · refine .inl ⟨by simp [Lib.indexByte, hbf, h1], fun c hc => ?_⟩
        rcases List.mem_cons.1 hc with rfl | hc
        · exact hb
        · exact h2 c hc
      · refine .inr ⟨b :: a, r, rfl, fun c hc => ?_, ?_⟩
        · rcases List.mem_cons.1 hc with rfl | hc
          · exact hb
          · exact h2 c hc
        · have hne : ((a.length : Int) == -1) = false := by rw [beq_eq_false_iff_ne]; omega
          simp [Lib.indexByte, hbf, h3, hne]
theorem ext_cut (a r : List UInt8) : (⟨(a ++ 46 :: r).toArray⟩ : ByteArray).extract 0 a.length = ⟨a.toArray⟩ := by
  have := Lib.extract_data ⟨(a ++ 46 :: r).toArray⟩ 0 a.length
  apply ByteArray.ext
  apply Array.ext'
  rw [this]
  simp
theorem ext_rest (a r : List UInt8) : (⟨(a ++ 46 :: r).toArray⟩ : ByteArray).extract (a.length + 1) (a ++ 46 :: r).length = ⟨r.toArray⟩ := by
  have := Lib.extract_data ⟨(a ++ 46 :: r).toArray⟩ (a.length + 1) (a ++ 46 :: r).length
  apply ByteArray.ext
  apply Array.ext'
  rw [this]
  show List.take ((a ++ 46 :: r).length - (a.length + 1)) (List.drop (a.length + 1) (a ++ 46 :: r)) = r
  have e : List.drop (a.length + 1) (a ++ 46 :: r) = r := by rw [List.drop_append]; simp
  rw [e]
  exact List.take_of_length_le (by simp; omega)
/-- How long the string in the iterator's cell is. -/
def strAt (N : Nat) (W : World) : Nat := match W.cell? ⟨N, 0, none⟩ with | some (.string b) => b.size | _ => 0
theorem strAt_box {N : Nat} {W : World} {t : TypeId} {s : List UInt8} (h : Boxed W N t (.string ⟨s.toArray⟩)) : strAt N W = s.length := by
  unfold strAt
  rw [h.cell]
  show s.toArray.size = _
  simp
set_option maxRecDepth 100000 in
set_option maxHeartbeats 4000000 in
theorem split_stops (n : Nat) (hn : 1 ≤ n) (N : Nat) (s : List UInt8) (hs : s.length ≤ 100000000) (w : World) (c0 : Boxed w N 9 (.string ⟨s.toArray⟩)) (c1 : Boxed w (N + 1) 9 (.string ⟨#[46]⟩)) (c2 : Boxed w (N + 2) 3 (.int .i64 0)) :
    SplitC Fence.wide n Tryd.prog 83 #[.pointer (some ⟨N + 1, 0, none⟩), .pointer (some ⟨N, 0, none⟩), .pointer (some ⟨N + 2, 0, none⟩)] N (cutA [] s) w := fun l J Jx W hW hJ hY h0 => by
  refine callsIn_of_wp Tryd.func83 rfl trivial ?_ rfl
  simp only [Tryd.ntmps83, List.size_toArray, List.length_cons, List.length_nil, Nat.reduceAdd, Nat.reduceSub, Array.replicate_succ, Array.replicate_zero, List.push_toArray, List.append_toArray, List.nil_append, List.cons_append]
  have B0 : Boxed W N 9 (.string ⟨s.toArray⟩) := (hW N (by omega) (by omega)).trans c0
  have B1 : Boxed W (N + 1) 9 (.string ⟨#[46]⟩) := (hW (N + 1) (by omega) (by omega)).trans c1
  have B2 : Boxed W (N + 2) 3 (.int .i64 0) := (hW (N + 2) (by omega) (by omega)).trans c2
  have HJ := Lib.hid hJ
  have HY := Lib.hid hY
  clear c0 c1 c2 hW hJ hY
  have x1 := B1.cell
  gi_wp2
  gi_loopw [7] (fun _ wr => ∃ (pre : List (List UInt8)) (rest : List UInt8), Hid (cutA [] s = pre ++ cutA [] rest) ∧ rest.length ≤ s.length ∧ Boxed wr N 9 (.string ⟨rest.toArray⟩) ∧ Boxed wr (N + 1) 9 (.string ⟨#[46]⟩) ∧ Boxed wr (N + 2) 3 (.int .i64 0) ∧ J pre wr) (fun _ wr => strAt N wr)
  case atStart => exact ⟨[], s, rfl, Nat.le_refl _, B0, B1, B2, h0⟩
  case round =>
    obtain ⟨pre, rest, HC, hrl, R0, R1, R2, hj⟩ := hrel
    clear B0 B1 B2 h0 x1
    have x0 := R0.cell
    have x1 := R1.cell
    have x2 := R2.cell
    have u0 := R0.frozen
    gi_wp2_with fail
    refine ⟨trivial, (callsIn_wide.2 (index_one_any ⟨rest.toArray⟩ 46 wr)).mono ?_⟩
    rintro e w' ⟨rfl, rfl⟩
    rw [show (⟨rest.toArray⟩ : ByteArray).data.toList = rest from rfl]
    rcases idx46 rest with ⟨hi, hnd⟩ | ⟨a, r, hra, hnd, hi⟩
    · rw [hi]
      have hcr : cutA [] rest = [rest] := by rw [cutA_nodot rest [] hnd]; rfl
      have HC2 : Hid (cutA [] s = pre ++ [rest]) := by show _ = _; rw [HC.out, hcr]
      obtain ⟨fn, tmps, assign, body, hy, hR⟩ := HY.out pre rest w' hj (by rw [HC2.out]; exact List.prefix_refl _)
      clear hnd hi hcr HC
      gi_wp2_with fail
      refine hR.mono ?_
      rintro e W3 (⟨rfl, hJ3, hk3⟩ | ⟨rfl, hJx3⟩)
      · gi_wp2
        go_end0
        exact ⟨⟨_, rfl⟩, .inl (by rw [HC2.out]; exact hJ3)⟩
      · gi_wp2
        go_end0
        exact ⟨⟨_, rfl⟩, .inr ⟨_, by rw [HC2.out]; exact List.prefix_refl _, hJx3⟩⟩
    · rw [hi]
      have hcr : cutA [] rest = a :: cutA [] r := by rw [hra, cutA_dot a r [] hnd]; rfl
      have HC2 : Hid (cutA [] s = (pre ++ [a]) ++ cutA [] r) := by show _ = _; rw [HC.out, hcr]; simp
      have HLT : Hid (pre ++ [a] <+: cutA [] s) := by show _ <+: _; rw [HC2.out]; exact List.prefix_append _ _
      obtain ⟨fn, tmps, assign, body, hy, hR⟩ := HY.out pre a w' hj HLT.out
      have hal : a.length + 1 + r.length = rest.length := by rw [hra]; simp; omega
      have HEX : Hid ((⟨rest.toArray⟩ : ByteArray).extract 0 a.length = ⟨a.toArray⟩) := by show _ = _; rw [hra]; exact ext_cut a r
      have HEX2 : Hid ((⟨rest.toArray⟩ : ByteArray).extract (a.length + 1) rest.length = ⟨r.toArray⟩) := by show _ = _; rw [hra]; exact ext_rest a r
      rw [← HEX.out] at hy
      have q0 : ¬ (a.length : Int) < 0 := by omega
      clear hnd hi hcr HC hra
      gi_wp2_with fail
      refine hR.mono ?_
      rintro e W3 (⟨rfl, hJ3, hk3⟩ | ⟨rfl, hJx3⟩)
      · have S0 : Boxed W3 N 9 (.string ⟨rest.toArray⟩) := (hk3 N (by omega) (by omega)).trans R0
        have S1 : Boxed W3 (N + 1) 9 (.string ⟨#[46]⟩) := (hk3 (N + 1) (by omega) (by omega)).trans R1
        have S2 : Boxed W3 (N + 2) 3 (.int .i64 0) := (hk3 (N + 2) (by omega) (by omega)).trans R2
        have HM0 := Lib.hid (strAt_box R0)
        clear x0 x1 x2 u0 R0 R1 R2 hj hk3 hy hR
        have x0 := S0.cell
        have x1 := S1.cell
        have u0 := S0.frozen
        have q3 : (a.length : Int) + 1 ≤ (rest.length : Int) := by omega
        gi_wp2_with fail
        have T0 := S0.set (.string ⟨r.toArray⟩)
        have T1 : Boxed (W3.setCell ⟨N, 0, none⟩ (.string ⟨r.toArray⟩)) (N + 1) 9 (.string ⟨#[46]⟩) := S1.kept (grownBy_setCell' W3 N _) (by simp)
        have T2 : Boxed (W3.setCell ⟨N, 0, none⟩ (.string ⟨r.toArray⟩)) (N + 2) 3 (.int .i64 0) := S2.kept (grownBy_setCell' W3 N _) (by simp)
        have TJ := HJ.out _ W3 (.string ⟨r.toArray⟩) hJ3
        go_roundw
        case rel => exact ⟨pre ++ [a], r, HC2, by omega, by rw [HEX2.out]; exact T0, by rw [HEX2.out]; exact T1, by rw [HEX2.out]; exact T2, by rw [HEX2.out]; exact TJ⟩
        case measure => rw [HEX2.out, strAt_box T0, HM0.out]; omega
      · gi_wp2
        refine bodyPost_ret (results_none rfl _ _ _) rfl ?_
        exact ⟨⟨_, rfl⟩, .inr ⟨_, by rw [HC2.out]; exact List.prefix_append _ _, hJx3⟩⟩
/-- The three boxes that SplitSeq lays. -/
def splitW (w : World) (s : List UInt8) : World := ((w.alloc (.cells #[.string ⟨s.toArray⟩] 9)).alloc (.cells #[.string ⟨#[46]⟩] 9)).alloc (.cells #[.int .i64 0] 3)
theorem splitSeq_any (s : List UInt8) (w : World) : Calls Tryd.prog 65 #[.string ⟨s.toArray⟩, .string ⟨#[46]⟩, .int .i64 0] w fun e w' => e = .returned (.func (.func 83) #[] #[.pointer (some ⟨w.heap.size + 1, 0, none⟩), .pointer (some ⟨w.heap.size, 0, none⟩), .pointer (some ⟨w.heap.size + 2, 0, none⟩)]) ∧ w' = splitW w s := by
  have hmf : ∀ (fn : Fn) (first cap : Array Value) (w : World), (Instr.makeFunc fn first cap).run Tryd.prog w = .ok (.func fn first cap) w := fun _ _ _ _ => rfl
  unfold splitW
  go_enter Tryd.func65, Tryd.ntmps65
  go_wp2_with fail
  go_ret
  exact ⟨rfl, rfl⟩
theorem SplitSeq_any (s : List UInt8) (w : World) : Calls Tryd.prog 44 #[.string ⟨s.toArray⟩, .string ⟨#[46]⟩] w fun e w' => e = .returned (.func (.func 83) #[] #[.pointer (some ⟨w.heap.size + 1, 0, none⟩), .pointer (some ⟨w.heap.size, 0, none⟩), .pointer (some ⟨w.heap.size + 2, 0, none⟩)]) ∧ w' = splitW w s := by
  have CS := Lib.hid (splitSeq_any s w)
  go_enter Tryd.func44, Tryd.ntmps44
  go_wp2_with fail
  refine CS.out.mono ?_
  rintro e w1 ⟨rfl, rfl⟩
  go_wp2_with fail
  go_ret
  exact ⟨rfl, rfl⟩
theorem splitW_boxes (w : World) (s : List UInt8) : Boxed (splitW w s) w.heap.size 9 (.string ⟨s.toArray⟩) ∧ Boxed (splitW w s) (w.heap.size + 1) 9 (.string ⟨#[46]⟩) ∧ Boxed (splitW w s) (w.heap.size + 2) 3 (.int .i64 0) ∧ Below w.heap.size w (splitW w s) ∧ (splitW w s).heap.size = w.heap.size + 3 := by
  unfold splitW
  refine ⟨((Boxed.new _ _ _).alloc _).alloc _, ?_, ?_, ?_, by simp⟩
  · have := (Boxed.new (w.alloc (.cells #[.string ⟨s.toArray⟩] 9)) 9 (.string ⟨#[46]⟩)).alloc (.cells #[.int .i64 0] 3)
    rwa [World.size_alloc] at this
  · have := Boxed.new ((w.alloc (.cells #[.string ⟨s.toArray⟩] 9)).alloc (.cells #[.string ⟨#[46]⟩] 9)) 3 (.int .i64 0)
    rwa [World.size_alloc, World.size_alloc] at this
  · exact (((Below.refl _ w).alloc (Nat.le_refl _) _).alloc (by simp) _).alloc (by simp; omega) _
end Go.Proofs.YtlhdiekibkdiaaaDoor
