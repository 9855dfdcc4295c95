/- Plain laws of what is less. The walks through rose's small functions: a copy, one number other, one number gone. The walk through rose's closure that tries. The walk through rose.Less. What rose.Less answers, in the words that the statements use. -/
import Derived.Test.YtibmnifenfingaaGreatDoorPMV
import Derived.Test.YtibmnifenfingaaGreatDoorPA
import Derived.Test.YtibmnifenfingaaGreatDoorGNS
import Derived.Test.YtibmnifenfingaaGreatDoorPLY
import Derived.Test.YtibmnifenfingaaGreatDoorTape
import Derived.Shelf.Slices.Clone
import Derived.Shelf.Slices.Delete
import Derived.Shelf.Slices.Cells
import Derived.Deep.MidRow
import Derived.Deep.Upon
import Derived.Laws.OwnMore
import Derived.Deep.LoopGhost
import Derived.Test.YtibmnifenfingaaGreatDoorDRW
namespace Go.Proofs.YtibmnifenfingaaGreatDoor
set_option maxRecDepth 100000
set_option linter.unusedSimpArgs false
set_option linter.unusedVariables false
/-- What is tried at a place. -/
def tries (l : List Int) (i : Nat) : List (List Int) :=
  (if 0 < l.getD i 0 then [l.set i 0, l.set i (l.getD i 0 / 2), l.set i (l.getD i 0 - 1)] else []) ++ [l.eraseIdx i]
/-- Those that are less, mended. -/
def keep (g : GT) (l : List Int) (T : List (List Int)) : List (List Int) := (T.map (mendR g)).filter (fun m => PTape.less m l)
def lessUp (g : GT) (l : List Int) : Nat → List (List Int)
  | 0 => []
  | n + 1 => lessUp g l n ++ keep g l (tries l n)
/-- The tapes that are less of one. -/
def lessR (g : GT) (l : List Int) : List (List Int) := lessUp g l l.length
theorem keep_cons (g : GT) (l m : List Int) (T : List (List Int)) : keep g l (m :: T) = (if PTape.less (mendR g m) l then [mendR g m] else []) ++ keep g l T := by
  unfold keep
  simp only [List.map_cons, List.filter_cons]
  split <;> simp
theorem keep_nil (g : GT) (l : List Int) : keep g l [] = [] := rfl
theorem keep_append (g : GT) (l : List Int) (S T : List (List Int)) : keep g l (S ++ T) = keep g l S ++ keep g l T := by
  unfold keep; simp
theorem keep_mem {g : GT} {l m : List Int} {T : List (List Int)} (h : m ∈ keep g l T) : PTape.less m l = true ∧ ∃ t, m = mendR g t := by
  unfold keep at h
  obtain ⟨h1, h2⟩ := List.mem_filter.1 h
  obtain ⟨t, _, e⟩ := List.mem_map.1 h1
  exact ⟨h2, t, e.symm⟩
theorem keep_len (g : GT) (l : List Int) (T : List (List Int)) : (keep g l T).length ≤ T.length := by
  unfold keep
  have := List.length_filter_le (fun m => PTape.less m l) (T.map (mendR g))
  simpa using this
theorem tries_len (l : List Int) (i : Nat) : (tries l i).length ≤ 4 ∧ 1 ≤ (tries l i).length := by
  unfold tries
  split <;> simp
theorem lessUp_mem {g : GT} {l m : List Int} (n : Nat) (h : m ∈ lessUp g l n) : PTape.less m l = true ∧ ∃ t, m = mendR g t := by
  induction n with
  | zero => simp [lessUp] at h
  | succ n ih =>
    rcases List.mem_append.1 h with h | h
    · exact ih h
    · exact keep_mem h
theorem lessUp_len (g : GT) (l : List Int) (n : Nat) : (lessUp g l n).length ≤ 4 * n := by
  induction n with
  | zero => simp [lessUp]
  | succ n ih =>
    have h1 := keep_len g l (tries l n)
    have h2 := (tries_len l n).1
    simp only [lessUp, List.length_append]
    omega
/-- Each that is less can be played, and is less; there are four for a number at most. -/
theorem lessR_mem {g : GT} (hc : GT.check g = 0) {l m : List Int} (h : m ∈ lessR g l) : PTape.less m l = true ∧ (playR g m).2 = 0 := by
  obtain ⟨h1, t, rfl⟩ := lessUp_mem _ h
  obtain ⟨v, hv, _⟩ := play_mended g hc t
  exact ⟨h1, by rw [hv]⟩
theorem lessR_len (g : GT) (l : List Int) : (lessR g l).length ≤ 4 * l.length := lessUp_len g l _
/-- Of one number. -/
theorem mend_int (a b : Int) (s : List GT) (h : a ≤ b) (l : List Int) : mendR (.mk 2 a b s) l = [max 0 (min (l.getD 0 0) (b - a))] := by
  have e : mendAt l (b - a) [] = max 0 (min (l.getD 0 0) (b - a)) := by
    unfold mendAt
    split
    · rename_i hl
      have hl' : 0 < l.length := by simpa using hl
      simp [List.getD_eq_getElem?_getD, List.getElem?_eq_getElem hl']
    · rename_i hl
      have hl' : ¬ 0 < l.length := by simpa using hl
      have : l = [] := List.length_eq_zero_iff.1 (by omega)
      subst this
      simp
      omega
  simp [mendR, GT.play, stMend, e]
theorem less_one (x y : Int) : PTape.less [x] [y] = decide (x < y) := by
  simp [PTape.less, PTape.cmpL]
  split
  · rename_i h; simp [h]
  · rename_i h
    split
    · simp; omega
    · simp; omega
theorem less_of_one (a b : Int) (s : List GT) (x : Int) (h0 : 0 ≤ x) (h1 : x ≤ b - a) : lessR (.mk 2 a b s) [x] = if x = 0 then [] else [[0], [x / 2], [x - 1], [0]] := by
  have hm : ∀ l, mendR (.mk 2 a b s) l = [max 0 (min (l.getD 0 0) (b - a))] := mend_int a b s (by omega)
  by_cases hx : x = 0
  · subst hx
    have e1 : max 0 (min 0 (b - a)) = 0 := by omega
    simp [lessR, lessUp, tries, keep, hm, less_one, e1]
  · have p : 0 < x := by omega
    have e0 : max 0 (min 0 (b - a)) = 0 := by omega
    have e2 : max 0 (min (x / 2) (b - a)) = x / 2 := by omega
    have e3 : max 0 (min (x - 1) (b - a)) = x - 1 := by omega
    have d2 : x / 2 < x := by omega
    have d3 : x - 1 < x := by omega
    simp [lessR, lessUp, tries, keep, hm, less_one, e0, e2, e3, hx, p, d2, d3]
end Go.Proofs.YtibmnifenfingaaGreatDoor
namespace Go.Proofs.YtibmnifenfingaaGreatDoor
set_option maxRecDepth 100000
open Go.RowKit
set_option linter.unusedSimpArgs false
set_option linter.unusedVariables false
/-! ### two contracts of the shelf -/
def renClone : Go.Shelf.Ren := ⟨fun | 15 => 54 | n => n, fun | 22 => 32 | 3 => 3 | 4 => 4 | n => n, fun | n => n⟩
theorem laysClone : Go.Proofs.Lays2.n15 Tryz.prog renClone := {
  mixed := by kernel_rfl
  f15 := (Tryz.func54).trans (congrArg some (by kernel_rfl))
  t3 := Tryz.underlying3
  a3 := Tryz.isAgg3
  z3 := Tryz.sizeOf3
  v3 := Tryz.zeroValue3
  t4 := Tryz.underlying4
  a4 := Tryz.isAgg4
  z4 := Tryz.sizeOf4
  v4 := Tryz.zeroValue4
  t22 := Tryz.underlying32
  a22 := Tryz.isAgg32
  z22 := Tryz.sizeOf32
  v22 := Tryz.zeroValue32
  i3 := by kernel_rfl }
def renDelete : Go.Shelf.Ren := ⟨fun | 23 => 77 | n => n, fun | 22 => 32 | 3 => 3 | 4 => 4 | 0 => 0 | n => n, fun | n => n⟩
theorem laysDelete : Go.Proofs.Lays2.n23 Tryz.prog renDelete := {
  mixed := by kernel_rfl
  f23 := (Tryz.func77).trans (congrArg some (by kernel_rfl))
  t0 := Tryz.underlying0
  a0 := Tryz.isAgg0
  z0 := Tryz.sizeOf0
  v0 := Tryz.zeroValue0
  t3 := Tryz.underlying3
  a3 := Tryz.isAgg3
  z3 := Tryz.sizeOf3
  v3 := Tryz.zeroValue3
  t4 := Tryz.underlying4
  a4 := Tryz.isAgg4
  z4 := Tryz.sizeOf4
  v4 := Tryz.zeroValue4
  t22 := Tryz.underlying32
  a22 := Tryz.isAgg32
  z22 := Tryz.sizeOf32
  v22 := Tryz.zeroValue32
  i3 := by kernel_rfl }
theorem below_cells {B g : Nat} (hg : B ≤ g) : ∀ (vs : List Value) (o : Nat) (w : World), Below B w (w.setCells g o vs)
  | [], _, w => Below.refl B w
  | v :: r, o, w => ((Below.refl B w).setCell (p := ⟨g, o, none⟩) hg v).trans (below_cells hg r (o + 1) _)
theorem clone_any (l : List Int) (v : Value) (w : World) (hl : l.length ≤ 17592186044416) (h : IntsAt w v l) :
    Calls Tryz.prog 54 #[v] w fun e w' => (∃ u, e = .returned u ∧ OwnInts w' w.heap.size u l) ∧ Below w.heap.size w w' := by
  rcases h.2 with ⟨rfl, rfl⟩ | ⟨a, cap, rfl, h1, h2, hc⟩
  · refine (Any.slices_Clone_int_nil laysClone 0 0 w).mono ?_
    rintro e w' ⟨rfl, rfl⟩
    exact ⟨⟨_, rfl, OwnInts.nil _ _⟩, Below.refl _ _⟩
  · by_cases hp : 0 < l.length
    · obtain ⟨b, off, rfl, hcell⟩ := ints_at hc hp
      refine (Any.slices_Clone_int laysClone b off l.length cap l w (Nat.le_refl _) (by omega) hcell).mono ?_
      rintro e w' ⟨v', rfl, ho, _, hb⟩
      rw [List.take_length] at ho
      exact ⟨⟨_, rfl, ho⟩, hb⟩
    · have : l = [] := List.length_eq_zero_iff.1 (by omega)
      subst this
      refine (Any.slices_Clone_int_zero laysClone a cap w).mono ?_
      rintro e w' ⟨v', rfl, ho, _, hb⟩
      exact ⟨⟨_, rfl, ho⟩, hb⟩
theorem eraseIdx_take_drop (l : List Int) (i : Nat) : l.eraseIdx i = l.take i ++ l.drop (i + 1) := List.eraseIdx_eq_take_drop_succ l i
theorem delete_any (l : List Int) (i : Nat) (hi : i < l.length) (v : Value) (w : World) (lo : Nat) (h : OwnInts w lo v l) (h64 : ∀ n ∈ l, In64 n) :
    Calls Tryz.prog 77 #[v, .int .i64 i, .int .i64 ((i : Int) + 1)] w fun e w' => (∃ u, e = .returned u ∧ IntsS w' (fun b => v.ownBlock = some b) u (l.eraseIdx i)) ∧ w.grownBy w' v.ownBlock := by
  rcases h.2 with ⟨_, h0⟩ | ⟨g, cap, cur, rfl, hg, hh, hn, hm, hcs, htake⟩
  · omega
  · have hat := h.at h64
    have hcell : ∀ j, j < l.length → w.cell? ⟨g, 0 + j, none⟩ = some (.int .i64 (l.getD j 0)) := by
      rcases hat.2 with ⟨e, _⟩ | ⟨a, c', e, _, _, hc⟩
      · cases e
      · intro j hj
        simp only [Value.slice.injEq, Option.some.injEq] at e
        obtain ⟨rfl, _, _⟩ := e
        have := hc j hj
        rw [addr_add] at this
        exact this
    have hlt : g < w.heap.size := (Array.getElem?_eq_some_iff.1 hh).1
    have hfr : ∀ j, w.frozen? ⟨g, 0 + j, none⟩ = false := fun j => Joins.unfrozen_of_block hh _
    unfold maxLen at hm
    have hcall := Any.slices_Delete_int_cells laysDelete g 0 l.length cap i (i + 1) l w (Nat.le_refl _) hn hm (by omega) (by omega) hcell (fun j _ => hfr j)
    have ec : ((i + 1 : Nat) : Int) = (i : Int) + 1 := by omega
    rw [ec] at hcall
    refine Calls.mono (show Calls Tryz.prog 77 _ w _ from hcall) ?_
    rintro e w' ⟨rfl, q, rfl⟩
    rw [List.take_length, show i + 1 - i = 1 by omega]
    have hlen : (l.eraseIdx i).length = l.length - 1 := by rw [List.length_eraseIdx, if_pos hi]
    obtain ⟨vs, hvs⟩ : ∃ vs, vs = (l.take i ++ l.drop (i + 1) ++ List.replicate 1 0).map (Value.int .i64) := ⟨_, rfl⟩
    rw [← hvs]
    have hvl : vs.length = l.length := by rw [hvs]; simp; omega
    refine ⟨⟨_, rfl, fun n hn => h64 n (List.mem_of_mem_eraseIdx hn), some ⟨g, 0, none⟩, cap, by rw [hlen], by omega, by unfold maxLen; omega, (fun e => by cases e), fun _ => ⟨g, 0, rfl, ?_, rfl, fun j hj => ?_⟩⟩, ?_⟩
    · exact Nat.lt_of_lt_of_le hlt (below_cells (Nat.le_refl g) vs 0 (w.drewN q)).size
    · have hr := World.cell?_setCells_in g vs 0 (w.drewN q) (fun j hj => by rw [show (w.drewN q).cell? ⟨g, 0 + j, none⟩ = w.cell? ⟨g, 0 + j, none⟩ from rfl, hcell j (by omega)]; rfl) j (by omega)
      rw [hr]
      rw [hlen] at hj
      have e1 : vs[j] = .int .i64 ((l.eraseIdx i).getD j 0) := by
        simp only [hvs, List.getElem_map]
        congr 1
        rw [List.getD_eq_getElem?_getD, eraseIdx_take_drop, List.getElem_append_left (by simp; omega), List.getElem?_eq_getElem (by simp; omega)]
        rfl
      rw [e1]
    · have hb := below_cells (Nat.le_refl g) vs 0 (w.drewN q)
      refine ⟨hb.os, hb.tape, hb.output, hb.size, fun k hk hne => ?_⟩
      exact World.heap_setCells_other (w.drewN q) g 0 vs hk (fun e => hne (by rw [e]; rfl))
/-! ### one number other -/
theorem IntsS.keepB {w w' : World} {S : Nat → Prop} {v : Value} {s : List Int} (h : IntsS w S v s) (hb : Below w.heap.size w w') : IntsS w' S v s := IntsS.reads.keep h hb.size (fun b hs hl => ⟨hs, hb.block b hl⟩)
set_option maxHeartbeats 1000000 in
theorem with_any (l : List Int) (lv : Value) (i : Nat) (x : Int) (p : Nat) (w : World) (hi : i < l.length) (hl : l.length ≤ 17592186044416) (hx : In64 x) (hp : Blk w p #[lv] 32) (h : IntsAt w lv l) :
    Calls Tryz.prog 76 #[.int .i64 i, .int .i64 x, .pointer (some ⟨p, 0, none⟩)] w fun e w' => (∃ u, e = .returned u ∧ IntsS w' (fun b => w.heap.size ≤ b) u (l.set i x)) ∧ Below w.heap.size w w' := by
  have c0 := hp.cell 0
  have h64 := Lib.hid h.1
  have C1 := Lib.hid (clone_any l lv w hl h)
  obtain ⟨lad, lcap, rfl, _⟩ := h.form
  simp only [List.getElem?_toArray, List.getElem?_cons_succ, List.getElem?_cons_zero] at c0
  clear h
  go_enter Tryz.func76, Tryz.ntmps76
  go_wp2_with fail
  refine C1.out.mono ?_
  rintro e w1 ⟨⟨u, rfl, hu⟩, hb1⟩
  rcases hu.2 with ⟨_, h0⟩ | ⟨g, cap, cur, rfl, hg, hh, hn, hm, hcs, htake⟩
  · omega
  have hst := World.ownsRow.stored hu i (.int .i64 x)
  have huc := (hu.at h64.out)
  have hgl : g < w1.heap.size := (Array.getElem?_eq_some_iff.1 hh).1
  have hfr : w1.frozen? ⟨g, i, none⟩ = false := Joins.unfrozen_of_block hh _
  have hcell : w1.cell? ⟨g, i, none⟩ = some (.int .i64 (l.getD i 0)) := by
    rcases huc.2 with ⟨e, _⟩ | ⟨a, c', e, _, _, hc⟩
    · cases e
    · simp only [Value.slice.injEq, Option.some.injEq] at e
      obtain ⟨rfl, _, _⟩ := e
      have := hc i hi
      rw [addr_add, Nat.zero_add] at this
      exact this
  have p1 : (0 : Int) ≤ (i : Int) := by omega
  have p2 : (i : Int) < (l.length : Int) := by omega
  have hlen : (l.set i x).length = l.length := by simp
  have hown : OwnInts (w1.setCell ⟨g, i, none⟩ (.int .i64 x)) w.heap.size (.slice (some ⟨g, 0, none⟩) l.length cap) (l.set i x) := by
    unfold OwnInts
    rw [hlen, List.map_set]
    exact hst.1
  have HO := Lib.hid (hown.s (fun n hn => by rcases List.mem_or_eq_of_mem_set hn with h | h; exact h64.out n h; rw [h]; exact hx))
  have HB : Hid (Below w.heap.size w (w1.setCell ⟨g, i, none⟩ (.int .i64 x))) := hb1.setCell hg _
  unfold maxLen at hm
  clear hst huc hown hlen hh htake hcs hu c0 hb1
  go_wp2_with fail
  go_ret
  exact ⟨⟨_, rfl, HO.out.mono (fun b hb _ => by simp [Value.ownBlock] at hb; omega)⟩, HB.out⟩
end Go.Proofs.YtibmnifenfingaaGreatDoor
namespace Go.Proofs.YtibmnifenfingaaGreatDoor
set_option maxRecDepth 100000
open Go.RowKit
set_option linter.unusedSimpArgs false
set_option linter.unusedVariables false
theorem OwnRw.keepLo {α : Type} {R : World → (Nat → Prop) → Value → α → Prop} (K : Reads R) {e : TypeId} {w w' : World} {lo : Nat} {v : Value} {B : List α} (h : OwnRw R e w lo v B) (hz : w.heap.size ≤ w'.heap.size) (hb : ∀ b, lo ≤ b → b < w.heap.size → w'.heap[b]? = w.heap[b]?) : OwnRw R e w' lo v B := by
  obtain ⟨cs, hown, hc⟩ := h
  refine ⟨cs, ⟨hown.1, ?_⟩, fun i hi => ?_⟩
  · rcases hown.2 with h2 | ⟨g, cap, cur, hv, hg, hh, r⟩
    · exact .inl h2
    · exact .inr ⟨g, cap, cur, hv, hg, (hb g hg (Array.getElem?_eq_some_iff.1 hh).1).trans hh, r⟩
  · obtain ⟨u, hu, hR⟩ := hc i hi
    exact ⟨u, hu, K.keep hR hz (fun b hs hl => ⟨hs, hb b hs.1 hl⟩)⟩
/-- From w to w' only the variable p and the array that it holds have changed. -/
structure FrO (p : Nat) (ov ov' : Value) (w w' : World) : Prop where
  os : w'.os = w.os
  tape : w'.tape = w.tape
  output : w'.output = w.output
  size : w.heap.size ≤ w'.heap.size
  blk : ∀ b, b < w.heap.size → b ≠ p → ov.ownBlock ≠ some b → w'.heap[b]? = w.heap[b]?
  new : ov'.ownBlock = ov.ownBlock ∨ ∀ b, ov'.ownBlock = some b → w.heap.size ≤ b
theorem FrO.of_below {p : Nat} {ov : Value} {w w' : World} (h : Below w.heap.size w w') : FrO p ov ov w w' := ⟨h.os, h.tape, h.output, h.size, fun b hb _ _ => h.block b hb, .inl rfl⟩
theorem FrO.refl (p : Nat) (ov : Value) (w : World) : FrO p ov ov w w := ⟨rfl, rfl, rfl, Nat.le_refl _, fun _ _ _ _ => rfl, .inl rfl⟩
theorem FrO.trans {p : Nat} {ov ov' ov'' : Value} {w w' w'' : World} (h : FrO p ov ov' w w') (k : FrO p ov' ov'' w' w'') : FrO p ov ov'' w w'' := by
  refine ⟨k.os.trans h.os, k.tape.trans h.tape, k.output.trans h.output, Nat.le_trans h.size k.size, fun b hb h1 h2 => ?_, ?_⟩
  · refine (k.blk b (Nat.lt_of_lt_of_le hb h.size) h1 ?_).trans (h.blk b hb h1 h2)
    rcases h.new with e | e
    · rw [e]; exact h2
    · intro e2; have := e b e2; omega
  · rcases k.new with e | e
    · rcases h.new with e2 | e2
      · exact .inl (e.trans e2)
      · exact .inr (fun b hb => e2 b (by rw [← e]; exact hb))
    · exact .inr (fun b hb => Nat.le_trans h.size (e b hb))
/-- The rows that were found: a variable, and what it holds. -/
structure OutAt (w : World) (lo p : Nat) (ov : Value) (B : List (List Int)) : Prop where
  blk : Blk w p #[ov] 87
  own : OwnRw IntsS 32 w lo ov B
theorem OutAt.ext {w w' : World} {lo p : Nat} {ov : Value} {B : List (List Int)} (h : OutAt w lo p ov B) (hb : Below w.heap.size w w') : OutAt w' lo p ov B := ⟨h.blk.ext hb, h.own.keep IntsS.reads hb⟩
theorem OwnInts.lo {w : World} {lo : Nat} {v : Value} {l : List Int} (h : OwnInts w lo v l) : ∀ b, v.ownBlock = some b → lo ≤ b ∧ b < w.heap.size := World.ownsRow.lt h
set_option maxHeartbeats 4000000 in
theorem try_any (g : GT) (l m : List Int) (hc : GT.check g = 0) (gv lv mv : Value) (lo p2 p3 p8 : Nat) (ov : Value) (B : List (List Int)) (w : World) (hB : B.length ≤ 1000000000) (hlo : p8 < lo) (hlw : lo ≤ w.heap.size)
    (hg : GenAt w gv g) (hgb : ∀ k a b t ad cap, gv = .agg #[.int .i64 k, .int .i64 a, .int .i64 b, .slice ad t cap] → Blk w p2 #[.int .i64 k, .int .i64 a, .int .i64 b, .slice ad t cap] 24) (hl : IntsAt w lv l) (hlb : Blk w p3 #[lv] 32) (hm : IntsAt w mv m) (ho : OutAt w lo p8 ov B) :
    Calls Tryz.prog 73 #[mv, .pointer (some ⟨p2, 0, none⟩), .pointer (some ⟨p3, 0, none⟩), .pointer (some ⟨p8, 0, none⟩)] w fun e w' => e = .returned .nilIface ∧ ∃ ov', OutAt w' lo p8 ov' (B ++ keep g l [m]) ∧ FrO p8 ov ov' w w' := by
  obtain ⟨gk, ga, gb, gn, gad, gcap, rfl⟩ := hg.shape
  have x2 := hgb _ _ _ _ _ _ rfl
  have C1 := Lib.hid (mend_own g m _ mv hc w hg hm)
  obtain ⟨mad, mcap, rfl, _⟩ := hm.form
  have hk : keep g l [m] = if PTape.less (mendR g m) l then [mendR g m] else [] := by rw [keep_cons, keep_nil, List.append_nil]
  rw [hk]
  have f0 := x2.cell 0
  have f1 := x2.cell 1
  have f2 := x2.cell 2
  have f3 := x2.cell 3
  simp only [List.getElem?_toArray, List.getElem?_cons_succ, List.getElem?_cons_zero] at f0 f1 f2 f3
  have hx2 := x2.lt
  have HL := Lib.hid hl
  have HO := Lib.hid ho
  have x3 := hlb
  have hx3 := x3.lt
  obtain ⟨lad, lcap, rfl, _⟩ := hl.form
  clear hg hgb hl hm hk ho hlb hc
  by_cases hls : PTape.less (mendR g m) l = true
  · rw [hls, if_pos rfl]
    have HLSW := Lib.hid hls
    clear hls
    go_enter Tryz.func73, Tryz.ntmps73
    go_wp2_with fail
    refine C1.out.mono ?_
    rintro e w1 ⟨⟨u, rfl, hu, hu64⟩, hb1⟩
    have y3 := x3.ext hb1
    have h0 := y3.cell 0
    simp only [List.getElem?_toArray, List.getElem?_cons_succ, List.getElem?_cons_zero] at h0
    have HU := Lib.hid (And.intro hu hu64)
    have HO1 := Lib.hid (HO.out.ext hb1)
    have HLS := Lib.hid (less_any u _ (mendR g m) l w1 (hu.at hu64) (HL.out.ext hb1))
    rw [HLSW.out] at HLS
    have hz1 := hb1.size
    have HB1 := Lib.hid hb1
    obtain ⟨uad, ulen, ucap, rfl⟩ : ∃ a n c, u = .slice a n c := by obtain ⟨a, c, e, _⟩ := (hu.at hu64).form; exact ⟨_, _, _, e⟩
    clear hu hu64 f0 f1 f2 f3 hb1
    go_wp2_with fail
    refine HLS.out.mono ?_
    rintro e w2 ⟨rfl, q, rfl⟩
    have HO2 : Hid (OutAt (w1.drewN q) lo p8 ov B) := HO1.out.ext (Joins.below_draws _ _ _)
    have HU2 : Hid (IntsS (w1.drewN q) (fun b => w.heap.size ≤ b) (.slice uad ulen ucap) (mendR g m)) := by
      have := (HU.out.1.kept (Joins.below_draws _ _ q)).s HU.out.2
      exact this.mono (fun b hb _ => (OwnInts.lo HU.out.1 b hb).1)
    have HF : Hid (FrO p8 ov ov w (w1.drewN q)) := FrO.of_below (HB1.out.trans (Joins.below_draws _ _ _))
    clear h0
    have z8 := HO2.out.blk
    have h0 := z8.cell 0
    simp only [List.getElem?_toArray, List.getElem?_cons_succ, List.getElem?_cons_zero] at h0
    have hu8 := z8.unfrozen 0
    have hz8 := z8.lt
    have hlt := HO.out.own.lt
    have HNF := Lib.hid hlt
    have HV : Hid (IntsS (w1.drewN q) (fun b => lo ≤ b ∧ ov.ownBlock ≠ some b) (.slice uad ulen ucap) (mendR g m)) := HU2.out.mono (fun b hb _ => ⟨by omega, fun e => by have := HNF.out b e; omega⟩)
    have hzq : w1.heap.size ≤ (w1.drewN q).heap.size := Nat.le_refl _
    clear hlt
    go_wp2_with (at_builtin; refine append_rw IntsS.reads (v := ov) (o := ⟨some 23, _, _, _, _, _⟩) (y := mendR g m) rfl _ _ 87 32 rfl Tryz.underlying87 info_ints rfl (HO2.out.own.keep IntsS.reads (by repeat (first | with_reducible assumption | with_reducible exact Below.refl _ _ | with_reducible apply Below.drew | (with_reducible refine Below.alloc ?_ (by first | omega | (simp only [zA, zS, zD, zN]; omega) | (dsimp only; omega) | (simp only [zA, zS, zD, zN]; dsimp only; omega)) _) | (with_reducible refine Below.setCell ?_ (by first | omega | (simp only [zA, zS, zD, zN]; omega) | (dsimp only; omega) | (simp only [zA, zS, zD, zN]; dsimp only; omega)) _) | (with_reducible apply below_drewN)))) rfl (Blk.newAt rfl) (HV.out.keepB ((Below.refl _ _).alloc (Nat.le_refl _) _)) hB (by simp [size_drewN]; omega) ?_; intro v6 w6 h1 h2 h3; obtain ⟨vad, vlen, vcap, rfl⟩ : ∃ a n c, v6 = .slice a n c := (by obtain ⟨a, c, e, _⟩ := h1.form; exact ⟨_, _, _, e⟩); have b6 := (h2.block p8 (by simp [size_drewN]; omega) (fun e => by have := HNF.out _ e.symm; omega)).trans (z8.alloc _); have c6 := Blk.cell b6 0; have u6 := Blk.unfrozen b6 0; simp only [List.getElem?_toArray, List.getElem?_cons_succ, List.getElem?_cons_zero] at c6; have H1 := Lib.hid (And.intro h1 (And.intro h2 h3)); clear h1 h2 h3)
    have hz6 := H1.out.2.1.size
    have hz1q : (w1.drewN q).heap.size = w1.heap.size := rfl
    simp only [World.size_alloc] at hz6
    go_ret
    have hb6 := set1 b6 (.slice vad vlen vcap)
    refine ⟨rfl, _, ⟨hb6, H1.out.1.keepLo IntsS.reads (by rw [size_setCell]; exact Nat.le_refl _) (fun b hb hl => Below.heap_setCell _ _ _ _ (by dsimp only; omega))⟩, HF.out.trans ?_⟩
    refine ⟨H1.out.2.1.os, H1.out.2.1.tape, H1.out.2.1.output, by rw [size_setCell]; omega, fun b hb h1 h2 => ?_, ?_⟩
    · rw [Below.heap_setCell _ _ _ _ (by dsimp only; omega)]
      exact (H1.out.2.1.block b (by simp; omega) (fun e => h2 e.symm)).trans (Below.heap_alloc _ _ b hb)
    · rcases H1.out.2.2 with e | e
      · exact .inl e
      · refine .inr (fun b hb => ?_)
        rw [e] at hb
        have := Option.some.inj hb
        simp at this
        omega
  · have hls2 : PTape.less (mendR g m) l = false := by simpa using hls
    rw [hls2, if_neg (by simp), List.append_nil]
    have HLSW := Lib.hid hls2
    clear hls hls2
    go_enter Tryz.func73, Tryz.ntmps73
    go_wp2_with fail
    refine C1.out.mono ?_
    rintro e w1 ⟨⟨u, rfl, hu, hu64⟩, hb1⟩
    have y3 := x3.ext hb1
    have h0 := y3.cell 0
    simp only [List.getElem?_toArray, List.getElem?_cons_succ, List.getElem?_cons_zero] at h0
    have HU := Lib.hid (And.intro hu hu64)
    have HO1 := Lib.hid (HO.out.ext hb1)
    have HLS := Lib.hid (less_any u _ (mendR g m) l w1 (hu.at hu64) (HL.out.ext hb1))
    rw [HLSW.out] at HLS
    have hz1 := hb1.size
    have HB1 := Lib.hid hb1
    obtain ⟨uad, ulen, ucap, rfl⟩ : ∃ a n c, u = .slice a n c := by obtain ⟨a, c, e, _⟩ := (hu.at hu64).form; exact ⟨_, _, _, e⟩
    clear hu hu64 f0 f1 f2 f3 hb1
    go_wp2_with fail
    refine HLS.out.mono ?_
    rintro e w2 ⟨rfl, q, rfl⟩
    have HO2 : Hid (OutAt (w1.drewN q) lo p8 ov B) := HO1.out.ext (Joins.below_draws _ _ _)
    have HU2 : Hid (IntsS (w1.drewN q) (fun b => w.heap.size ≤ b) (.slice uad ulen ucap) (mendR g m)) := by
      have := (HU.out.1.kept (Joins.below_draws _ _ q)).s HU.out.2
      exact this.mono (fun b hb _ => (OwnInts.lo HU.out.1 b hb).1)
    have HF : Hid (FrO p8 ov ov w (w1.drewN q)) := FrO.of_below (HB1.out.trans (Joins.below_draws _ _ _))
    clear h0
    go_wp2_with fail
    go_ret
    exact ⟨rfl, ov, HO2.out, HF.out⟩
end Go.Proofs.YtibmnifenfingaaGreatDoor
namespace Go.Proofs.YtibmnifenfingaaGreatDoor
set_option maxRecDepth 100000
open Go.RowKit
set_option linter.unusedSimpArgs false
set_option linter.unusedVariables false
/-- Three rows onto nil. -/
theorem append_three {α : Type} {R : World → (Nat → Prop) → Value → α → Prop} (K : Reads R) {w : World} {ops : Array Oper} {rest : List Oper} {o : Oper} {a : Act} {Q : Exit → Act → World → Prop} (hgd : o.guard = none) (s x : Operand) (t e : TypeId)
    (ho : o.op = .call { callee := .builtin .append, args := #[s, x], argTypes := #[t, t] }) (ht : Tryz.prog.underlying t = some (.slice e)) (hinfo : (Tryz.prog.info? e).map (fun i => (i.zero, i.size, i.bytes)) = some (some (.slice none 0 0), 1, 24))
    {base : Nat} (hs : a.eval s = .slice none 0 0)
    {bs cap : Nat} {u1 u2 u3 : Value} {te : TypeId} {y1 y2 y3 : α} (hx : a.eval x = .slice (some ⟨bs, 0, none⟩) 3 cap) (hsrc : Blk w bs #[u1, u2, u3] te) (h1 : R w (fun b => base ≤ b) u1 y1) (h2 : R w (fun b => base ≤ b) u2 y2) (h3 : R w (fun b => base ≤ b) u3 y3) (hbase : base ≤ w.heap.size)
    (h : ∀ v' w', OwnRw R e w' base v' [y1, y2, y3] → Below w.heap.size w w' → wpList Tryz.prog ops Q rest (a.put o.dst v') w') : wpList Tryz.prog ops Q (o :: rest) a w := by
  refine wpl_append_at hgd s x t ho w.heap.size e ht hinfo rfl (by decide) hs (World.ownsRow_nil _ _ _ _) hx (.inr ⟨⟨bs, 0, none⟩, cap, rfl, World.news_of_block hsrc⟩) (by simp) (fun z hz => ?_) (by unfold maxLen; omega) (by omega) (Nat.le_refl _) ?_
  · have : z = u1 ∨ z = u2 ∨ z = u3 := by simpa using hz
    rcases this with rfl | rfl | rfl
    · exact K.one h1
    · exact K.one h2
    · exact K.one h3
  · intro v' w' k1 k2 k3 k4
    have hb : Below w.heap.size w w' := (Below.refl _ _).grown k2 (Nat.le_refl _) (fun k hk => by simp [Value.ownBlock] at hk)
    have hlo := World.ownsRow.lt k1
    refine h v' w' ⟨[u1, u2, u3], ?_, fun i hi => ?_⟩ hb
    · have := k1
      rw [List.nil_append] at this
      refine ⟨this.1, ?_⟩
      rcases this.2 with h2 | ⟨g, cap, cur, hv, hg, r⟩
      · exact .inl h2
      · exact .inr ⟨g, cap, cur, hv, by omega, r⟩
    · have hmv : ∀ {u : Value} {y : α}, R w (fun b => base ≤ b) u y → R w' (fun b => base ≤ b ∧ v'.ownBlock ≠ some b) u y := fun hR =>
        K.keep hR hb.size (fun b hs hl => ⟨⟨hs, fun e => by have := hlo b e; omega⟩, hb.block b hl⟩)
      have hi3 : i = 0 ∨ i = 1 ∨ i = 2 := by simp at hi; omega
      rcases hi3 with rfl | rfl | rfl
      · exact ⟨u1, rfl, hmv h1⟩
      · exact ⟨u2, rfl, hmv h2⟩
      · exact ⟨u3, rfl, hmv h3⟩
set_option maxHeartbeats 1000000 in
theorem rose_bad (g : GT) (tape : List Int) (hp : (playR g tape).2 ≠ 0) (v tv : Value) (w : World) (hg : GenAt w v g) (ht : IntsAt w tv tape) :
    Calls Tryz.prog 55 #[v, tv] w fun e w' => e = .returned (.tuple #[.slice none 0 0, errV (playR g tape).2]) ∧ Below w.heap.size w w' := by
  obtain ⟨k, a, b, t, ad, cap, rfl⟩ := hg.shape
  have C2 := Lib.hid (fun W (h : Below w.heap.size w W) => replay_any g tape (.agg #[.int .i64 k, .int .i64 a, .int .i64 b, .slice ad t cap]) tv W (hg.ext h) (ht.ext h))
  rw [errV_ne hp] at *
  obtain ⟨tad, tcap, rfl, htl, htm, _, _⟩ := ht.form
  generalize playR g tape = pr at *
  clear hp hg ht
  go_enter Tryz.func55, Tryz.ntmps55
  go_wp2_with fail
  refine (C2.out _ (by repeat (first | with_reducible assumption | with_reducible exact Below.refl _ _ | with_reducible apply Below.drew | (with_reducible refine Below.alloc ?_ (by first | omega | (simp only [zA, zS, zD, zN]; omega) | (dsimp only; omega) | (simp only [zA, zS, zD, zN]; dsimp only; omega)) _) | (with_reducible refine Below.setCell ?_ (by first | omega | (simp only [zA, zS, zD, zN]; omega) | (dsimp only; omega) | (simp only [zA, zS, zD, zN]; dsimp only; omega)) _) | (with_reducible apply below_drewN)))).mono ?_
  rintro e w2 ⟨⟨rv, rfl, hrv⟩, hb2⟩
  obtain ⟨rl, rn, rk, rad, rcap, rfl⟩ := hrv.shape
  have hB2 : Below w.heap.size w w2 := Below.trans (by repeat (first | with_reducible assumption | with_reducible exact Below.refl _ _ | with_reducible apply Below.drew | (with_reducible refine Below.alloc ?_ (by first | omega | (simp only [zA, zS, zD, zN]; omega) | (dsimp only; omega) | (simp only [zA, zS, zD, zN]; dsimp only; omega)) _) | (with_reducible refine Below.setCell ?_ (by first | omega | (simp only [zA, zS, zD, zN]; omega) | (dsimp only; omega) | (simp only [zA, zS, zD, zN]; dsimp only; omega)) _) | (with_reducible apply below_drewN))) (hb2.mono (by first | omega | (simp only [zA, zS, zD, zN]; omega) | (dsimp only; omega) | (simp only [zA, zS, zD, zN]; dsimp only; omega)))
  have hz2 := hB2.size
  clear hb2 hrv
  go_wp2_with fail
  go_ret2
  exact ⟨rfl, by repeat (first | with_reducible assumption | with_reducible exact Below.refl _ _ | with_reducible apply Below.drew | (with_reducible refine Below.alloc ?_ (by first | omega | (simp only [zA, zS, zD, zN]; omega) | (dsimp only; omega) | (simp only [zA, zS, zD, zN]; dsimp only; omega)) _) | (with_reducible refine Below.setCell ?_ (by first | omega | (simp only [zA, zS, zD, zN]; omega) | (dsimp only; omega) | (simp only [zA, zS, zD, zN]; dsimp only; omega)) _) | (with_reducible apply below_drewN))⟩
/-- What holds at the head of the loop. -/
structure RoseI (g : GT) (l : List Int) (w : World) (lv : Value) (gk ga gb : Int) (gn gcap : Nat) (gad : Option Addr) (lo p2 p3 p8 : Nat) (B : List (List Int)) (ov : Value) (wr : World) : Prop where
  out : OutAt wr lo p8 ov B
  b2 : Blk wr p2 #[.int .i64 gk, .int .i64 ga, .int .i64 gb, .slice gad gn gcap] 24
  b3 : Blk wr p3 #[lv] 32
  below : Below w.heap.size w wr
  los : lo ≤ wr.heap.size
section
variable {g : GT} {l : List Int} {w : World} {lv : Value} {gk ga gb : Int} {gn gcap : Nat} {gad : Option Addr} {lo p2 p3 p8 : Nat} {B B' : List (List Int)} {ov ov' : Value} {wr w' : World}
theorem RoseI.ext (h : RoseI g l w lv gk ga gb gn gcap gad lo p2 p3 p8 B ov wr) (hb : Below wr.heap.size wr w') : RoseI g l w lv gk ga gb gn gcap gad lo p2 p3 p8 B ov w' :=
  ⟨h.out.ext hb, h.b2.ext hb, h.b3.ext hb, h.below.trans (hb.mono h.below.size), Nat.le_trans h.los hb.size⟩
theorem RoseI.next (h : RoseI g l w lv gk ga gb gn gcap gad lo p2 p3 p8 B ov wr) (h2 : w.heap.size ≤ p2) (h3 : p2 < p3) (h8 : p3 < p8) (hl : p8 < lo) (ho : OutAt w' lo p8 ov' B') (hf : FrO p8 ov ov' wr w') : RoseI g l w lv gk ga gb gn gcap gad lo p2 p3 p8 B' ov' w' := by
  have hlt := h.out.own.lt
  have hne : ∀ b, b < lo → ov.ownBlock ≠ some b := fun b hb e => by have := hlt b e; omega
  refine ⟨ho, (hf.blk _ h.b2.lt (by omega) (hne _ (by omega))).trans h.b2, (hf.blk _ h.b3.lt (by omega) (hne _ (by omega))).trans h.b3, ?_, Nat.le_trans h.los hf.size⟩
  refine ⟨hf.os.trans h.below.os, hf.tape.trans h.below.tape, hf.output.trans h.below.output, Nat.le_trans h.below.size hf.size, fun b hb => ?_⟩
  exact (hf.blk b (Nat.lt_of_lt_of_le hb h.below.size) (by omega) (hne b (by omega))).trans (h.below.block b hb)
end
set_option maxRecDepth 100000 in
set_option maxHeartbeats 4000000 in
theorem rose_any (g : GT) (l : List Int) (hp : (playR g l).2 = 0) (hc : GT.check g = 0) (h01 : ∀ n ∈ l, 0 ≤ n ∧ n ≤ 1000) (hlen : l.length ≤ 1399680) (v lv : Value) (w : World) (hg : GenAt w v g) (hl : IntsAt w lv l) :
    Calls Tryz.prog 55 #[v, lv] w fun e w' => (∃ u, e = .returned (.tuple #[u, .nilIface]) ∧ RwAt IntsS w' (fun b => w.heap.size ≤ b) u (lessR g l)) ∧ Below w.heap.size w w' := by
  obtain ⟨gk, ga, gb, gn, gad, gcap, rfl⟩ := hg.shape
  have C2 := Lib.hid (fun W (h : Below w.heap.size w W) => replay_any g l (.agg #[.int .i64 gk, .int .i64 ga, .int .i64 gb, .slice gad gn gcap]) lv W (hg.ext h) (hl.ext h))
  rw [hp, errV_zero] at C2
  obtain ⟨lad, lcap, rfl, hll, hlm, hl64, hlc⟩ := hl.form
  unfold maxLen at hlm
  have HG := Lib.hid hg
  have HL := Lib.hid hl
  have HC := Lib.hid hc
  have H01 := Lib.hid h01
  have HLC := Lib.hid hlc
  clear hp hc hg hl hl64 hlc h01
  go_enter Tryz.func55, Tryz.ntmps55
  go_wp2_with fail
  refine (C2.out _ (by repeat (first | with_reducible assumption | with_reducible exact Below.refl _ _ | with_reducible apply Below.drew | (with_reducible refine Below.alloc ?_ (by first | omega | (simp only [zA, zS, zD, zN]; omega) | (dsimp only; omega) | (simp only [zA, zS, zD, zN]; dsimp only; omega)) _) | (with_reducible refine Below.setCell ?_ (by first | omega | (simp only [zA, zS, zD, zN]; omega) | (dsimp only; omega) | (simp only [zA, zS, zD, zN]; dsimp only; omega)) _) | (with_reducible apply below_drewN)))).mono ?_
  rintro e w1 ⟨⟨rv, rfl, hrv⟩, hb1⟩
  obtain ⟨rl, rn, rk, rad, rcap, rfl⟩ := hrv.shape
  have hB1 : Below w.heap.size w w1 := Below.trans (by repeat (first | with_reducible assumption | with_reducible exact Below.refl _ _ | with_reducible apply Below.drew | (with_reducible refine Below.alloc ?_ (by first | omega | (simp only [zA, zS, zD, zN]; omega) | (dsimp only; omega) | (simp only [zA, zS, zD, zN]; dsimp only; omega)) _) | (with_reducible refine Below.setCell ?_ (by first | omega | (simp only [zA, zS, zD, zN]; omega) | (dsimp only; omega) | (simp only [zA, zS, zD, zN]; dsimp only; omega)) _) | (with_reducible apply below_drewN))) (hb1.mono (by first | omega | (simp only [zA, zS, zD, zN]; omega) | (dsimp only; omega) | (simp only [zA, zS, zD, zN]; dsimp only; omega)))
  have x2 := ((Blk.new w #[.int .i64 gk, .int .i64 ga, .int .i64 gb, .slice gad gn gcap] 24).alloc (.cells #[.slice lad l.length lcap] 32)).ext hb1
  have x3 := (Blk.new (w.alloc (.cells #[.int .i64 gk, .int .i64 ga, .int .i64 gb, .slice gad gn gcap] 24)) #[.slice lad l.length lcap] 32).ext hb1
  simp only [World.size_alloc] at x3
  have hz1 := hb1.size
  simp only [World.size_alloc] at hz1
  have f0 := x3.cell 0
  simp only [List.getElem?_toArray, List.getElem?_cons_succ, List.getElem?_cons_zero] at f0
  have hl3 := x3.lt
  clear hb1 hrv C2
  have f0' : ((w1.alloc (.cells #[.bool rl, .int .i64 rn, .slice rad rk rcap] 45)).alloc (.cells #[.slice none 0 0] 87)).cell? ⟨w.heap.size + 1, 0, none⟩ = some (.slice lad l.length lcap) := by
    have := ((x3.alloc (.cells #[.bool rl, .int .i64 rn, .slice rad rk rcap] 45)).alloc (.cells #[.slice none 0 0] 87)).cell 0
    simpa using this
  go_wp2_with fail
  have y2 := (x2.alloc (.cells #[.bool rl, .int .i64 rn, .slice rad rk rcap] 45)).alloc (.cells #[.slice none 0 0] 87)
  have y3 := (x3.alloc (.cells #[.bool rl, .int .i64 rn, .slice rad rk rcap] 45)).alloc (.cells #[.slice none 0 0] 87)
  have y8 := Blk.new (w1.alloc (.cells #[.bool rl, .int .i64 rn, .slice rad rk rcap] 45)) #[.slice none 0 0] 87
  have hBW : Below w.heap.size w ((w1.alloc (.cells #[.bool rl, .int .i64 rn, .slice rad rk rcap] 45)).alloc (.cells #[.slice none 0 0] 87)) := by repeat (first | with_reducible assumption | with_reducible exact Below.refl _ _ | with_reducible apply Below.drew | (with_reducible refine Below.alloc ?_ (by first | omega | (simp only [zA, zS, zD, zN]; omega) | (dsimp only; omega) | (simp only [zA, zS, zD, zN]; dsimp only; omega)) _) | (with_reducible refine Below.setCell ?_ (by first | omega | (simp only [zA, zS, zD, zN]; omega) | (dsimp only; omega) | (simp only [zA, zS, zD, zN]; dsimp only; omega)) _) | (with_reducible apply below_drewN))
  have hzW : ((w1.alloc (.cells #[.bool rl, .int .i64 rn, .slice rad rk rcap] 45)).alloc (.cells #[.slice none 0 0] 87)).heap.size = w1.heap.size + 2 := by simp
  simp only [World.size_alloc] at y8
  have hI : Hid (RoseI g l w (.slice lad l.length lcap) gk ga gb gn gcap gad (w1.heap.size + 2) w.heap.size (w.heap.size + 1) (w1.heap.size + 1) (lessUp g l 0) (.slice none 0 0) ((w1.alloc (.cells #[.bool rl, .int .i64 rn, .slice rad rk rcap] 45)).alloc (.cells #[.slice none 0 0] 87))) :=
    ⟨⟨y8, OwnRw.nil _ _ _ _⟩, y2, y3, hBW, by omega⟩
  clear x2 x3 y2 y3 y8 hBW hzW f0 f0' hl3 hB1
  generalize (w1.alloc (.cells #[.bool rl, .int .i64 rn, .slice rad rk rcap] 45)).alloc (.cells #[.slice none 0 0] 87) = W at *
  generalize w1.heap.size = z1 at *
  go_loopw [30] (fun i wr => ∃ (j : Nat) (ov : Value), j ≤ l.length ∧ i = .int .i64 j ∧ RoseI g l w (.slice lad l.length lcap) gk ga gb gn gcap gad (z1 + 2) w.heap.size (w.heap.size + 1) (z1 + 1) (lessUp g l j) ov wr) (fun i _ => l.length - (intOf i).toNat)
  case atStart => exact ⟨0, _, by omega, rfl, hI.out⟩
  case round =>
    obtain ⟨j, ov, hj, rfl, hR⟩ := hrel
    obtain ⟨wo, rfl⟩ : ∃ wo : World, wo = wr := ⟨_, rfl⟩
    clear hI
    have HR := Lib.hid hR
    have hbr := hR.below
    have hzr := hbr.size
    have hlos := hR.los
    have y3 := hR.b3
    clear hR
    by_cases hlt : j < l.length
    · have q1 : (j : Int) < (l.length : Int) := by omega
      have q0 : (0 : Int) ≤ (j : Int) := by omega
      obtain ⟨lbl, loff, rfl, hlb, hlcc⟩ := HLC.out (by omega)
      have hcx := (hbr.cell (p := ⟨lbl, _, none⟩) hlb).trans (hlcc j hlt)
      have hx01 := H01.out (l.getD j 0) (by rw [List.getD_eq_getElem?_getD, List.getElem?_eq_getElem hlt]; exact List.getElem_mem hlt)
      have HTR : Hid (tries l j = (if 0 < l.getD j 0 then [l.set j 0, l.set j (l.getD j 0 / 2), l.set j (l.getD j 0 - 1)] else []) ++ [l.eraseIdx j]) := rfl
      generalize l.getD j 0 = x at *
      have hx0 := hx01.1
      have hx1 := hx01.2
      clear hlcc hx01
      have f0 := y3.cell 0
      simp only [List.getElem?_toArray, List.getElem?_cons_succ, List.getElem?_cons_zero] at f0
      have hl3 := y3.lt
      by_cases hx : 0 < x
      · have HTR2 : Hid (tries l j = [l.set j 0, l.set j (x / 2), l.set j (x - 1)] ++ [l.eraseIdx j]) := by have := HTR.out; rw [if_pos hx] at this; exact this
        go_wp2_with fail
        refine (with_any l _ j 0 _ _ hlt (by omega) ⟨by omega, by omega⟩ y3 (HL.out.ext hbr)).mono ?_
        rintro e w2 ⟨⟨u1, rfl, hu1⟩, hb2⟩
        have hB2 : Below wo.heap.size wo w2 := hb2
        have y32 := y3.ext hb2
        have hz2 := hb2.size
        clear f0 hb2
        go_wp2_with fail
        refine (with_any l _ j (x / 2) _ _ hlt (by omega) ⟨by omega, by omega⟩ y32 (HL.out.ext (hbr.trans (hB2.mono hzr)))).mono ?_
        rintro e w3 ⟨⟨u2, rfl, hu2⟩, hb3⟩
        have hB3 : Below wo.heap.size wo w3 := hB2.trans (hb3.mono hz2)
        have y33 := y32.ext hb3
        have hz3 := hB3.size
        have hz32 := hb3.size
        have hu13 := hu1.keepB hb3
        clear hb3 hu1
        go_wp2_with fail
        refine (with_any l _ j (x - 1) _ _ hlt (by omega) ⟨by omega, by omega⟩ y33 (HL.out.ext (hbr.trans (hB3.mono hzr)))).mono ?_
        rintro e w4 ⟨⟨u3, rfl, hu3⟩, hb4⟩
        have hB4 : Below wo.heap.size wo w4 := hB3.trans (hb4.mono hz3)
        have hz4 := hB4.size
        have hu14 := Lib.hid (hu13.keepB hb4)
        have hu24 := Lib.hid ((hu2.keepB hb4).mono (S' := fun b => wo.heap.size ≤ b) (fun b hb _ => by omega))
        have hu34 := Lib.hid (hu3.mono (S' := fun b => wo.heap.size ≤ b) (fun b hb _ => by omega))
        obtain ⟨a1, n1, c1, rfl⟩ : ∃ a n c, u1 = .slice a n c := by obtain ⟨_, a, c, e, _⟩ := hu13; exact ⟨_, _, _, e⟩
        obtain ⟨a2, n2, c2, rfl⟩ : ∃ a n c, u2 = .slice a n c := by obtain ⟨_, a, c, e, _⟩ := hu2; exact ⟨_, _, _, e⟩
        obtain ⟨a3, n3, c3, rfl⟩ : ∃ a n c, u3 = .slice a n c := by obtain ⟨_, a, c, e, _⟩ := hu3; exact ⟨_, _, _, e⟩
        have y34 := y33.ext hb4
        clear hu13 hu2 hu3 hb4 y32 y33
        have f0 := y34.cell 0
        simp only [List.getElem?_toArray, List.getElem?_cons_succ, List.getElem?_cons_zero] at f0
        have hl34 := y34.lt
        have HY := Lib.hid y34
        clear y34 y3
        go_wp2_with (at_builtin; refine append_three IntsS.reads (base := wo.heap.size) (o := ⟨some 52, _, _, _, _, _⟩) rfl _ _ 87 32 rfl Tryz.underlying87 info_ints rfl rfl (Blk.newAt rfl) (hu14.out.keepB ((Below.refl _ _).alloc (Nat.le_refl _) _)) (hu24.out.keepB ((Below.refl _ _).alloc (Nat.le_refl _) _)) (hu34.out.keepB ((Below.refl _ _).alloc (Nat.le_refl _) _)) (by simp; omega) ?_; intro tv w4b k1 k2; obtain ⟨tad, tn, tcap, rfl⟩ : ∃ a n c, tv = .slice a n c := (by obtain ⟨a, c, e, _⟩ := k1.form; exact ⟨_, _, _, e⟩); have hB4b : Below wo.heap.size wo w4b := (hB4.alloc (by omega) _).trans (k2.mono (by simp; omega)); have f9 := (((HY.out.alloc (.cells #[.slice a1 n1 c1, .slice a2 n2 c2, .slice a3 n3 c3] 32)).ext k2)).cell 0; simp only [List.getElem?_toArray, List.getElem?_cons_zero] at f9; have hz9 := hB4b.size; have HT4 := Lib.hid k1; have HB4 := Lib.hid hB4b; clear k1 k2 hB4b)
        refine (clone_any l _ _ (by omega) (HL.out.ext (hbr.trans (HB4.out.mono hzr)))).mono ?_
        rintro e w5 ⟨⟨cu, rfl, hcu⟩, hb5⟩
        have hz5 := hb5.size
        have hcul := hcu.lo
        have C6 := Lib.hid (delete_any l j hlt cu w5 _ hcu HL.out.1)
        obtain ⟨cad, cn5, ccap, rfl⟩ : ∃ a n c, cu = .slice a n c := by obtain ⟨a, c, e, _⟩ := (hcu.at HL.out.1).form; exact ⟨_, _, _, e⟩
        have HB5 := Lib.hid hb5
        have HCU := Lib.hid hcul
        clear hcu hcul f9 hb5
        go_wp2_with fail
        refine C6.out.mono ?_
        rintro e w6 ⟨⟨du, rfl, hdu⟩, hg6⟩
        have hB6 : Below w4b.heap.size w4b w6 := HB5.out.grown hg6 HB5.out.size (fun k hk => (HCU.out k hk).1)
        have hTT6 := HT4.out.keep IntsS.reads hB6
        have hz6 := hB6.size
        have hzq := HB4.out.size
        have hdu6 : Hid (IntsS w6 (fun b => wo.heap.size ≤ b ∧ (Value.slice tad tn tcap).ownBlock ≠ some b) du (l.eraseIdx j)) := hdu.mono (fun b hb _ => by
          have h1 := (HCU.out b hb).1
          exact ⟨by omega, fun e => by have := HT4.out.lt b e; omega⟩)
        obtain ⟨dad, dn, dcap, rfl⟩ : ∃ a n c, du = .slice a n c := by obtain ⟨_, a, c, e, _⟩ := hdu; exact ⟨_, _, _, e⟩
        have HT6 := Lib.hid hTT6
        have HB6 : Hid (Below wo.heap.size wo w6) := HB4.out.trans (hB6.mono hzq)
        clear hdu hg6 hTT6 hB6 hzq
        go_wp2_with (at_builtin; refine append_rw IntsS.reads (v := .slice tad tn tcap) (o := ⟨some 61, _, _, _, _, _⟩) (y := l.eraseIdx j) rfl _ _ 87 32 rfl Tryz.underlying87 info_ints rfl (HT6.out.keep IntsS.reads (by repeat (first | with_reducible assumption | with_reducible exact Below.refl _ _ | with_reducible apply Below.drew | (with_reducible refine Below.alloc ?_ (by first | omega | (simp only [zA, zS, zD, zN]; omega) | (dsimp only; omega) | (simp only [zA, zS, zD, zN]; dsimp only; omega)) _) | (with_reducible refine Below.setCell ?_ (by first | omega | (simp only [zA, zS, zD, zN]; omega) | (dsimp only; omega) | (simp only [zA, zS, zD, zN]; dsimp only; omega)) _) | (with_reducible apply below_drewN)))) rfl (Blk.newAt rfl) (hdu6.out.keepB ((Below.refl _ _).alloc (Nat.le_refl _) _)) (by simp) (by simp; omega) ?_; intro v7 w7 k1 k2 k3; have hB7 : Below wo.heap.size wo w7 := (HB6.out.alloc (by omega) _).grown k2 (by simp; omega) (fun k hk => (HT6.out.lt k hk).1); have HT7 : Hid (OwnRw IntsS 32 w7 wo.heap.size v7 (tries l j)) := (by rw [HTR2.out]; exact k1); obtain ⟨vad, vcap, rfl, hvl, hvm, hvn, hvc⟩ := HT7.out.at IntsS.reads; have HVC := Lib.hid hvc; have HB7 := Lib.hid hB7; clear k1 k2 k3 hvc hB7)
        have hz7 := HB7.out.size
        have HR7 := Lib.hid (HR.out.ext HB7.out)
        have htl := (tries_len l j).1
        have htl1 := (tries_len l j).2
        have HW7 : Hid (RwAt IntsS w7 (fun b => wo.heap.size ≤ b ∧ b < w7.heap.size) (.slice vad (tries l j).length vcap) (tries l j)) := (HT7.out.at IntsS.reads).keep IntsS.reads (Nat.le_refl _) (fun b hb hl => ⟨⟨hb, hl⟩, rfl⟩)
        have hovl : Hid (∀ b, ov.ownBlock = some b → b < wo.heap.size) := fun b e => (HR.out.out.own.lt b e).2
        unfold maxLen at hvm
        obtain ⟨Tn, hTn⟩ : ∃ Tn, Tn = (tries l j).length := ⟨_, rfl⟩
        rw [← hTn] at hvl htl htl1
        rw [← hTn]
        have HTN := Lib.hid hTn
        clear hTn
        go_loopw [63] (fun i w8 => ∃ (m : Nat) (ov8 : Value), m ≤ Tn ∧ i = .int .i64 m ∧ RoseI g l w (.slice (some ⟨lbl, loff, none⟩) l.length lcap) gk ga gb gn gcap gad (z1 + 2) w.heap.size (w.heap.size + 1) (z1 + 1) (lessUp g l j ++ keep g l ((tries l j).take m)) ov8 w8 ∧ RwAt IntsS w8 (fun b => wo.heap.size ≤ b ∧ b < w7.heap.size) (.slice vad (tries l j).length vcap) (tries l j) ∧ w7.heap.size ≤ w8.heap.size ∧ Hid (∀ b, ov8.ownBlock = some b → b < wo.heap.size ∨ w7.heap.size ≤ b)) (fun i _ => Tn - (intOf i).toNat)
        case atStart => exact ⟨0, ov, by omega, rfl, by rw [List.take_zero, keep_nil, List.append_nil]; exact HR7.out, HW7.out, Nat.le_refl _, fun b e => .inl (hovl.out b e)⟩
        case round =>
          obtain ⟨m, ov8, hm, rfl, hR8, hW8, hz8, hov8⟩ := hrel
          by_cases hltm : m < Tn
          · have r1 : (m : Int) < (Tn : Int) := by omega
            have r0 : (0 : Int) ≤ (m : Int) := by omega
            have hmT : m < (tries l j).length := by rw [← HTN.out]; exact hltm
            obtain ⟨ad8, cap8, e8, _, _, _, hc8⟩ := hW8
            simp only [Value.slice.injEq] at e8
            obtain ⟨rfl, _, rfl⟩ := e8
            obtain ⟨tbl, toff, rfl, ht1, ht2, htc⟩ := hc8 (by omega)
            obtain ⟨mv, hmv, hmR⟩ := htc m hmT
            have HW8 : Hid (RwAt IntsS wr (fun b => wo.heap.size ≤ b ∧ b < w7.heap.size) (.slice (some ⟨tbl, toff, none⟩) (tries l j).length vcap) (tries l j)) := ⟨_, _, rfl, by omega, by unfold maxLen; omega, (fun e => by cases e), fun _ => ⟨tbl, toff, rfl, ht1, ht2, htc⟩⟩
            have HR8 := Lib.hid hR8
            have CT := Lib.hid (try_any g l ((tries l j)[m]) HC.out _ _ mv (z1 + 2) w.heap.size (w.heap.size + 1) (z1 + 1) ov8 _ wr (by
              have h1 := lessUp_len g l j
              have h2 := keep_len g l ((tries l j).take m)
              simp at h2 ⊢
              omega) (by omega) hR8.los (HG.out.ext hR8.below) (fun _ _ _ _ _ _ e => by
                simp only [Value.agg.injEq] at e
                rw [← e]; exact hR8.b2) (HL.out.ext hR8.below) hR8.b3 hmR.at hR8.out)
            have hkk : keep g l ((tries l j).take (m + 1)) = keep g l ((tries l j).take m) ++ keep g l [(tries l j)[m]] := by
              rw [List.take_add_one, List.getElem?_eq_getElem hmT, keep_append]; rfl
            have HKK := Lib.hid hkk
            obtain ⟨ma, mn, mc, rfl⟩ : ∃ a n c, mv = .slice a n c := by obtain ⟨_, a, c, e, _⟩ := hmR; exact ⟨_, _, _, e⟩
            have HPH : Hid (z1 + 2 ≤ wo.heap.size) := hlos
            clear hR8 hc8 htc hmR hkk
            go_wp2_with fail
            refine CT.out.mono ?_
            rintro e w9 ⟨rfl, ov9, ho9, hf9⟩
            have hR9 := HR8.out.next (Nat.le_refl _) (by omega) (by omega) (by omega) ho9 hf9
            have hz9 := hf9.size
            have hW9 := HW8.out.keep IntsS.reads hz9 (S' := fun b => wo.heap.size ≤ b ∧ b < w7.heap.size) (fun b hb hl => ⟨hb, hf9.blk b hl (by have := HPH.out; omega) (fun e => by rcases hov8.out b e with h | h <;> omega)⟩)
            have hov9 : Hid (∀ b, ov9.ownBlock = some b → b < wo.heap.size ∨ w7.heap.size ≤ b) := fun b hb => by
              rcases hf9.new with e | e
              · rw [e] at hb; exact hov8.out b hb
              · exact .inr (by have := e b hb; omega)
            rw [List.append_assoc, ← HKK.out] at hR9
            have H9 := Lib.hid (And.intro hR9 hW9)
            clear ho9 hf9 hR9 hW9
            go_wp2_with fail
            exact ⟨⟨m + 1, ov9, by omega, by go_num, H9.out.1, H9.out.2, by omega, hov9⟩, by simp [intOf]; omega⟩
          · have r1 : ¬ (m : Int) < (Tn : Int) := by omega
            have hmT : m = (tries l j).length := by have := HTN.out; omega
            rw [hmT, List.take_length] at hR8
            have HR8 := Lib.hid hR8
            clear hR8 hW8 hmT
            go_wp2_with fail
            exact ⟨⟨j + 1, ov8, by omega, by go_num, HR8.out⟩, by simp [intOf]; omega⟩
      · have HTR2 : Hid (tries l j = [] ++ [l.eraseIdx j]) := by have := HTR.out; rw [if_neg hx] at this; exact this
        have HT4 : Hid (OwnRw IntsS 32 wo wo.heap.size (.slice none 0 0) []) := OwnRw.nil _ _ _ _
        have HB4 : Hid (Below wo.heap.size wo wo) := Below.refl _ _
        go_wp2_with fail
        refine (clone_any l _ _ (by omega) (HL.out.ext (hbr.trans (HB4.out.mono hzr)))).mono ?_
        rintro e w5 ⟨⟨cu, rfl, hcu⟩, hb5⟩
        have hz5 := hb5.size
        have hcul := hcu.lo
        have C6 := Lib.hid (delete_any l j hlt cu w5 _ hcu HL.out.1)
        obtain ⟨cad, cn5, ccap, rfl⟩ : ∃ a n c, cu = .slice a n c := by obtain ⟨a, c, e, _⟩ := (hcu.at HL.out.1).form; exact ⟨_, _, _, e⟩
        have HB5 := Lib.hid hb5
        have HCU := Lib.hid hcul
        clear hcu hcul f0 hb5
        go_wp2_with fail
        refine C6.out.mono ?_
        rintro e w6 ⟨⟨du, rfl, hdu⟩, hg6⟩
        have hB6 : Below wo.heap.size wo w6 := HB5.out.grown hg6 HB5.out.size (fun k hk => (HCU.out k hk).1)
        have hTT6 := HT4.out.keep IntsS.reads hB6
        have hz6 := hB6.size
        have hzq := HB4.out.size
        have hdu6 : Hid (IntsS w6 (fun b => wo.heap.size ≤ b ∧ (Value.slice none 0 0).ownBlock ≠ some b) du (l.eraseIdx j)) := hdu.mono (fun b hb _ => by
          have h1 := (HCU.out b hb).1
          exact ⟨by omega, fun e => by have := HT4.out.lt b e; omega⟩)
        obtain ⟨dad, dn, dcap, rfl⟩ : ∃ a n c, du = .slice a n c := by obtain ⟨_, a, c, e, _⟩ := hdu; exact ⟨_, _, _, e⟩
        have HT6 := Lib.hid hTT6
        have HB6 : Hid (Below wo.heap.size wo w6) := HB4.out.trans (hB6.mono hzq)
        clear hdu hg6 hTT6 hB6 hzq
        go_wp2_with (at_builtin; refine append_rw IntsS.reads (v := .slice none 0 0) (o := ⟨some 61, _, _, _, _, _⟩) (y := l.eraseIdx j) rfl _ _ 87 32 rfl Tryz.underlying87 info_ints rfl (HT6.out.keep IntsS.reads (by repeat (first | with_reducible assumption | with_reducible exact Below.refl _ _ | with_reducible apply Below.drew | (with_reducible refine Below.alloc ?_ (by first | omega | (simp only [zA, zS, zD, zN]; omega) | (dsimp only; omega) | (simp only [zA, zS, zD, zN]; dsimp only; omega)) _) | (with_reducible refine Below.setCell ?_ (by first | omega | (simp only [zA, zS, zD, zN]; omega) | (dsimp only; omega) | (simp only [zA, zS, zD, zN]; dsimp only; omega)) _) | (with_reducible apply below_drewN)))) rfl (Blk.newAt rfl) (hdu6.out.keepB ((Below.refl _ _).alloc (Nat.le_refl _) _)) (by simp) (by simp; omega) ?_; intro v7 w7 k1 k2 k3; have hB7 : Below wo.heap.size wo w7 := (HB6.out.alloc (by omega) _).grown k2 (by simp; omega) (fun k hk => (HT6.out.lt k hk).1); have HT7 : Hid (OwnRw IntsS 32 w7 wo.heap.size v7 (tries l j)) := (by rw [HTR2.out]; exact k1); obtain ⟨vad, vcap, rfl, hvl, hvm, hvn, hvc⟩ := HT7.out.at IntsS.reads; have HVC := Lib.hid hvc; have HB7 := Lib.hid hB7; clear k1 k2 k3 hvc hB7)
        have hz7 := HB7.out.size
        have HR7 := Lib.hid (HR.out.ext HB7.out)
        have htl := (tries_len l j).1
        have htl1 := (tries_len l j).2
        have HW7 : Hid (RwAt IntsS w7 (fun b => wo.heap.size ≤ b ∧ b < w7.heap.size) (.slice vad (tries l j).length vcap) (tries l j)) := (HT7.out.at IntsS.reads).keep IntsS.reads (Nat.le_refl _) (fun b hb hl => ⟨⟨hb, hl⟩, rfl⟩)
        have hovl : Hid (∀ b, ov.ownBlock = some b → b < wo.heap.size) := fun b e => (HR.out.out.own.lt b e).2
        unfold maxLen at hvm
        obtain ⟨Tn, hTn⟩ : ∃ Tn, Tn = (tries l j).length := ⟨_, rfl⟩
        rw [← hTn] at hvl htl htl1
        rw [← hTn]
        have HTN := Lib.hid hTn
        clear hTn
        go_loopw [63] (fun i w8 => ∃ (m : Nat) (ov8 : Value), m ≤ Tn ∧ i = .int .i64 m ∧ RoseI g l w (.slice (some ⟨lbl, loff, none⟩) l.length lcap) gk ga gb gn gcap gad (z1 + 2) w.heap.size (w.heap.size + 1) (z1 + 1) (lessUp g l j ++ keep g l ((tries l j).take m)) ov8 w8 ∧ RwAt IntsS w8 (fun b => wo.heap.size ≤ b ∧ b < w7.heap.size) (.slice vad (tries l j).length vcap) (tries l j) ∧ w7.heap.size ≤ w8.heap.size ∧ Hid (∀ b, ov8.ownBlock = some b → b < wo.heap.size ∨ w7.heap.size ≤ b)) (fun i _ => Tn - (intOf i).toNat)
        case atStart => exact ⟨0, ov, by omega, rfl, by rw [List.take_zero, keep_nil, List.append_nil]; exact HR7.out, HW7.out, Nat.le_refl _, fun b e => .inl (hovl.out b e)⟩
        case round =>
          obtain ⟨m, ov8, hm, rfl, hR8, hW8, hz8, hov8⟩ := hrel
          by_cases hltm : m < Tn
          · have r1 : (m : Int) < (Tn : Int) := by omega
            have r0 : (0 : Int) ≤ (m : Int) := by omega
            have hmT : m < (tries l j).length := by rw [← HTN.out]; exact hltm
            obtain ⟨ad8, cap8, e8, _, _, _, hc8⟩ := hW8
            simp only [Value.slice.injEq] at e8
            obtain ⟨rfl, _, rfl⟩ := e8
            obtain ⟨tbl, toff, rfl, ht1, ht2, htc⟩ := hc8 (by omega)
            obtain ⟨mv, hmv, hmR⟩ := htc m hmT
            have HW8 : Hid (RwAt IntsS wr (fun b => wo.heap.size ≤ b ∧ b < w7.heap.size) (.slice (some ⟨tbl, toff, none⟩) (tries l j).length vcap) (tries l j)) := ⟨_, _, rfl, by omega, by unfold maxLen; omega, (fun e => by cases e), fun _ => ⟨tbl, toff, rfl, ht1, ht2, htc⟩⟩
            have HR8 := Lib.hid hR8
            have CT := Lib.hid (try_any g l ((tries l j)[m]) HC.out _ _ mv (z1 + 2) w.heap.size (w.heap.size + 1) (z1 + 1) ov8 _ wr (by
              have h1 := lessUp_len g l j
              have h2 := keep_len g l ((tries l j).take m)
              simp at h2 ⊢
              omega) (by omega) hR8.los (HG.out.ext hR8.below) (fun _ _ _ _ _ _ e => by
                simp only [Value.agg.injEq] at e
                rw [← e]; exact hR8.b2) (HL.out.ext hR8.below) hR8.b3 hmR.at hR8.out)
            have hkk : keep g l ((tries l j).take (m + 1)) = keep g l ((tries l j).take m) ++ keep g l [(tries l j)[m]] := by
              rw [List.take_add_one, List.getElem?_eq_getElem hmT, keep_append]; rfl
            have HKK := Lib.hid hkk
            obtain ⟨ma, mn, mc, rfl⟩ : ∃ a n c, mv = .slice a n c := by obtain ⟨_, a, c, e, _⟩ := hmR; exact ⟨_, _, _, e⟩
            have HPH : Hid (z1 + 2 ≤ wo.heap.size) := hlos
            clear hR8 hc8 htc hmR hkk
            go_wp2_with fail
            refine CT.out.mono ?_
            rintro e w9 ⟨rfl, ov9, ho9, hf9⟩
            have hR9 := HR8.out.next (Nat.le_refl _) (by omega) (by omega) (by omega) ho9 hf9
            have hz9 := hf9.size
            have hW9 := HW8.out.keep IntsS.reads hz9 (S' := fun b => wo.heap.size ≤ b ∧ b < w7.heap.size) (fun b hb hl => ⟨hb, hf9.blk b hl (by have := HPH.out; omega) (fun e => by rcases hov8.out b e with h | h <;> omega)⟩)
            have hov9 : Hid (∀ b, ov9.ownBlock = some b → b < wo.heap.size ∨ w7.heap.size ≤ b) := fun b hb => by
              rcases hf9.new with e | e
              · rw [e] at hb; exact hov8.out b hb
              · exact .inr (by have := e b hb; omega)
            rw [List.append_assoc, ← HKK.out] at hR9
            have H9 := Lib.hid (And.intro hR9 hW9)
            clear ho9 hf9 hR9 hW9
            go_wp2_with fail
            exact ⟨⟨m + 1, ov9, by omega, by go_num, H9.out.1, H9.out.2, by omega, hov9⟩, by simp [intOf]; omega⟩
          · have r1 : ¬ (m : Int) < (Tn : Int) := by omega
            have hmT : m = (tries l j).length := by have := HTN.out; omega
            rw [hmT, List.take_length] at hR8
            have HR8 := Lib.hid hR8
            clear hR8 hW8 hmT
            go_wp2_with fail
            exact ⟨⟨j + 1, ov8, by omega, by go_num, HR8.out⟩, by simp [intOf]; omega⟩
    · have q1 : ¬ (j : Int) < (l.length : Int) := by omega
      obtain rfl : j = l.length := by omega
      have z8 := HR.out.out.blk
      have f0 := z8.cell 0
      simp only [List.getElem?_toArray, List.getElem?_cons_succ, List.getElem?_cons_zero] at f0
      have HF : Hid (RwAt IntsS wo (fun b => w.heap.size ≤ b) ov (lessR g l)) := (HR.out.out.own.at IntsS.reads).keep IntsS.reads (Nat.le_refl _) (fun b hb _ => ⟨by omega, rfl⟩)
      obtain ⟨oa, on, oc, rfl⟩ : ∃ a n c, ov = .slice a n c := by obtain ⟨a, c, e, _⟩ := HR.out.out.own.form; exact ⟨_, _, _, e⟩
      go_wp2_with fail
      go_ret2
      exact ⟨⟨_, rfl, HF.out⟩, hbr⟩
end Go.Proofs.YtibmnifenfingaaGreatDoor
namespace Go.Proofs.YtibmnifenfingaaGreatDoor
set_option maxRecDepth 100000
open Go.RowKit
set_option linter.unusedSimpArgs false
set_option linter.unusedVariables false
/-- A tape that can be played: its generator is right, its numbers are small, and it is not long. -/
theorem played_fit {g : GT} {l : List Int} (h : (playR g l).2 = 0) : GT.check g = 0 ∧ (∀ n ∈ l, 0 ≤ n ∧ n ≤ 1000) ∧ l.length ≤ 1399680 := by
  have hc : GT.check g = 0 := by
    by_cases hc : GT.check g = 0
    · exact hc
    · unfold playR at h; rw [if_neg hc] at h; exact absurd h hc
  simp only [playR, hc, if_true] at h
  cases hp : GT.play (stPlay l) g 0 with
  | error e =>
    rw [hp] at h
    simp only at h
    have := GT.play_err (stPlay l) (fun e => e = 1 ∨ e = 5) (fun m q e h => stPlay_err h) (fun m q c q' _ h => stPlay_bd h) g (GT.check_ok hc) 0 e hp
    omega
  | ok r =>
    obtain ⟨v, i⟩ := r
    rw [hp] at h
    simp only at h
    by_cases hi : i < l.length
    · rw [if_pos hi] at h; simp at h
    · have hinv : i ≤ l.length ∧ ∀ n (hn : n < l.length), n < i → 0 ≤ l[n] ∧ l[n] ≤ 1000 := by
        refine GT.play_inv (stPlay l) (fun q => q ≤ l.length ∧ ∀ n (hn : n < l.length), n < q → 0 ≤ l[n] ∧ l[n] ≤ 1000) (fun m q c q' _ h => stPlay_bd h) (fun m q c q' hm hm2 h hq => ?_) g (GT.check_ok hc) 0 (GT.check_parts hc) 0 v i hp ⟨Nat.zero_le _, fun n hn h => by omega⟩
        obtain ⟨e1, hi, e2⟩ := stPlay_le h
        have hb := stPlay_bd h
        refine ⟨by omega, fun n hn h => ?_⟩
        by_cases hlt : n < q
        · exact hq.2 n hn hlt
        · have : n = q := by omega
          subst this
          omega
      have hbud := GT.play_bud (stPlay l) (fun q => l.length - q) (fun m q c q' _ h => stPlay_bd h) (fun m q c q' _ h => by have := (stPlay_le h).1; omega) g (GT.check_ok hc) 0 v i hp
      have hco := GT.cost_ok hc
      refine ⟨hc, fun n hn => ?_, by omega⟩
      obtain ⟨j, hj, rfl⟩ := List.getElem_of_mem hn
      exact hinv.2 j hj (by omega)
theorem mended_ok (g : GT) (hc : GT.check g = 0) (l : List Int) : (playR g (mendR g l)).2 = 0 := by
  obtain ⟨t, h, _⟩ := play_mended g hc l
  rw [h]
theorem rose_ok (g : GT) (l : List Int) (hp : (playR g l).2 = 0) (v lv : Value) (w : World) (hg : GenAt w v g) (hl : IntsAt w lv l) :
    Calls Tryz.prog 55 #[v, lv] w fun e w' => (∃ u, e = .returned (.tuple #[u, .nilIface]) ∧ RwAt IntsS w' (fun b => w.heap.size ≤ b) u (lessR g l)) ∧ Below w.heap.size w w' :=
  rose_any g l hp (played_fit hp).1 (played_fit hp).2.1 (played_fit hp).2.2 v lv w hg hl
theorem one_fit {a b x : Int} (h : (playR (.mk 2 a b []) [x]).2 = 0) : 0 ≤ x ∧ x ≤ b - a ∧ x ≤ 1000 := by
  have h1 := (played_fit h).2.1 x (by simp)
  have hc := (played_fit h).1
  have hb : x ≤ b - a := by
    simp only [playR, hc, if_true, GT.play, show ¬ ((2:Int) = 1) by decide, if_false] at h
    cases hs : stPlay [x] (b - a) 0 with
    | error e =>
      rw [hs] at h
      simp only at h
      have := stPlay_err hs
      omega
    | ok r =>
      obtain ⟨c, q⟩ := r
      have h2 := stPlay_bd hs
      obtain ⟨_, hi, e⟩ := stPlay_le hs
      simp at e
      omega
  omega
/-- A row of one number. -/
theorem IntsS.single {w : World} {S : Nat → Prop} {v : Value} {y : Int} (h : IntsS w S v [y]) : ∃ b off cap, v = .slice (some ⟨b, off, none⟩) 1 cap ∧ w.cell? ⟨b, off, none⟩ = some (.int .i64 y) := by
  obtain ⟨_, ad, cap, rfl, h1, h2, h3, h4⟩ := h
  obtain ⟨bl, off, rfl, _, _, hc⟩ := h4 (by simp)
  exact ⟨bl, off, cap, rfl, by simpa using hc 0 (by simp)⟩
end Go.Proofs.YtibmnifenfingaaGreatDoor
