/- The walks through rose's small functions: a copy, one number other, one number gone. -/
import Derived.Test.YtjobgkcoblpbcaaRws
import Derived.Test.YtjobgkcoblpbcaaMend2
import Derived.Test.YtjobgkcoblpbcaaTape
import Derived.Test.YtjobgkcoblpbcaaPRose
import Derived.Shelf.Slices.Clone
import Derived.Shelf.Slices.Delete
import Derived.Shelf.Slices.Cells
import Derived.Deep.MidRow
import Derived.Deep.Upon
import Derived.Laws.OwnMore
namespace Go.Proofs.Ytjobgkcoblpbcaa
open Go.RowKit
set_option linter.unusedSimpArgs false
set_option linter.unusedVariables false
/-! ### two contracts of the shelf -/
def renClone : Go.Shelf.Ren := ⟨fun | 15 => 47 | n => n, fun | 22 => 38 | 3 => 3 | 4 => 4 | n => n, fun | n => n⟩
theorem laysClone : Go.Proofs.Lays2.n15 Try.prog renClone := {
  mixed := by kernel_rfl
  f15 := (Try.func47).trans (congrArg some (by kernel_rfl))
  t3 := Try.underlying3
  a3 := Try.isAgg3
  z3 := Try.sizeOf3
  v3 := Try.zeroValue3
  t4 := Try.underlying4
  a4 := Try.isAgg4
  z4 := Try.sizeOf4
  v4 := Try.zeroValue4
  t22 := Try.underlying38
  a22 := Try.isAgg38
  z22 := Try.sizeOf38
  v22 := Try.zeroValue38
  i3 := by kernel_rfl }
def renDelete : Go.Shelf.Ren := ⟨fun | 23 => 48 | n => n, fun | 22 => 38 | 3 => 3 | 4 => 4 | 0 => 0 | n => n, fun | n => n⟩
theorem laysDelete : Go.Proofs.Lays2.n23 Try.prog renDelete := {
  mixed := by kernel_rfl
  f23 := (Try.func48).trans (congrArg some (by kernel_rfl))
  t0 := Try.underlying0
  a0 := Try.isAgg0
  z0 := Try.sizeOf0
  v0 := Try.zeroValue0
  t3 := Try.underlying3
  a3 := Try.isAgg3
  z3 := Try.sizeOf3
  v3 := Try.zeroValue3
  t4 := Try.underlying4
  a4 := Try.isAgg4
  z4 := Try.sizeOf4
  v4 := Try.zeroValue4
  t22 := Try.underlying38
  a22 := Try.isAgg38
  z22 := Try.sizeOf38
  v22 := Try.zeroValue38
  i3 := by kernel_rfl }
theorem below_cells {B g : Nat} (hg : B ≤ g) : ∀ (vs : List Value) (o : Nat) (w : World), Below B w (w.setCells g o vs)
  | [], _, w => Below.refl B w
  | v :: r, o, w => ((Below.refl B w).setCell (p := ⟨g, o, none⟩) hg v).trans (below_cells hg r (o + 1) _)
theorem clone_any (l : List Int) (v : Value) (w : World) (hl : l.length ≤ 17592186044416) (h : IntsAt w v l) :
    Calls Try.prog 47 #[v] w fun e w' => (∃ u, e = .returned u ∧ OwnInts w' w.heap.size u l) ∧ Below w.heap.size w w' := by
  rcases h.2 with ⟨rfl, rfl⟩ | ⟨a, cap, rfl, h1, h2, hc⟩
  · refine (Any.slices_Clone_int_nil laysClone 0 0 w).mono ?_
    rintro e w' ⟨rfl, rfl⟩
    exact ⟨⟨_, rfl, OwnInts.nil _ _⟩, Below.refl _ _⟩
  · by_cases hp : 0 < l.length
    · obtain ⟨b, off, rfl, hcell⟩ := ints_at hc hp
      refine (Any.slices_Clone_int laysClone b off l.length cap l w (Nat.le_refl _) (by omega) hcell).mono ?_
      rintro e w' ⟨v', rfl, ho, _, hb⟩
      rw [List.take_length] at ho
      exact ⟨⟨_, rfl, ho⟩, hb⟩
    · have : l = [] := List.length_eq_zero_iff.1 (by omega)
      subst this
      refine (Any.slices_Clone_int_zero laysClone a cap w).mono ?_
      rintro e w' ⟨v', rfl, ho, _, hb⟩
      exact ⟨⟨_, rfl, ho⟩, hb⟩
theorem eraseIdx_take_drop (l : List Int) (i : Nat) : l.eraseIdx i = l.take i ++ l.drop (i + 1) := List.eraseIdx_eq_take_drop_succ l i
theorem delete_any (l : List Int) (i : Nat) (hi : i < l.length) (v : Value) (w : World) (lo : Nat) (h : OwnInts w lo v l) (h64 : ∀ n ∈ l, In64 n) :
    Calls Try.prog 48 #[v, .int .i64 i, .int .i64 ((i : Int) + 1)] w fun e w' => (∃ u, e = .returned u ∧ IntsS w' (fun b => v.ownBlock = some b) u (l.eraseIdx i)) ∧ w.grownBy w' v.ownBlock := by
  rcases h.2 with ⟨_, h0⟩ | ⟨g, cap, cur, rfl, hg, hh, hn, hm, hcs, htake⟩
  · omega
  · have hat := h.at h64
    have hcell : ∀ j, j < l.length → w.cell? ⟨g, 0 + j, none⟩ = some (.int .i64 (l.getD j 0)) := by
      rcases hat.2 with ⟨e, _⟩ | ⟨a, c', e, _, _, hc⟩
      · cases e
      · intro j hj
        simp only [Value.slice.injEq, Option.some.injEq] at e
        obtain ⟨rfl, _, _⟩ := e
        have := hc j hj
        rw [addr_add] at this
        exact this
    have hlt : g < w.heap.size := (Array.getElem?_eq_some_iff.1 hh).1
    have hfr : ∀ j, w.frozen? ⟨g, 0 + j, none⟩ = false := fun j => Joins.unfrozen_of_block hh _
    unfold maxLen at hm
    have hcall := Any.slices_Delete_int_cells laysDelete g 0 l.length cap i (i + 1) l w (Nat.le_refl _) hn hm (by omega) (by omega) hcell (fun j _ => hfr j)
    have ec : ((i + 1 : Nat) : Int) = (i : Int) + 1 := by omega
    rw [ec] at hcall
    refine Calls.mono (show Calls Try.prog 48 _ w _ from hcall) ?_
    rintro e w' ⟨rfl, q, rfl⟩
    rw [List.take_length, show i + 1 - i = 1 by omega]
    have hlen : (l.eraseIdx i).length = l.length - 1 := by rw [List.length_eraseIdx, if_pos hi]
    obtain ⟨vs, hvs⟩ : ∃ vs, vs = (l.take i ++ l.drop (i + 1) ++ List.replicate 1 0).map (Value.int .i64) := ⟨_, rfl⟩
    rw [← hvs]
    have hvl : vs.length = l.length := by rw [hvs]; simp; omega
    refine ⟨⟨_, rfl, fun n hn => h64 n (List.mem_of_mem_eraseIdx hn), some ⟨g, 0, none⟩, cap, by rw [hlen], by omega, by unfold maxLen; omega, (fun e => by cases e), fun _ => ⟨g, 0, rfl, ?_, rfl, fun j hj => ?_⟩⟩, ?_⟩
    · exact Nat.lt_of_lt_of_le hlt (below_cells (Nat.le_refl g) vs 0 (w.drewN q)).size
    · have hr := World.cell?_setCells_in g vs 0 (w.drewN q) (fun j hj => by rw [show (w.drewN q).cell? ⟨g, 0 + j, none⟩ = w.cell? ⟨g, 0 + j, none⟩ from rfl, hcell j (by omega)]; rfl) j (by omega)
      rw [hr]
      rw [hlen] at hj
      have e1 : vs[j] = .int .i64 ((l.eraseIdx i).getD j 0) := by
        simp only [hvs, List.getElem_map]
        congr 1
        rw [List.getD_eq_getElem?_getD, eraseIdx_take_drop, List.getElem_append_left (by simp; omega), List.getElem?_eq_getElem (by simp; omega)]
        rfl
      rw [e1]
    · have hb := below_cells (Nat.le_refl g) vs 0 (w.drewN q)
      refine ⟨hb.os, hb.tape, hb.output, hb.size, fun k hk hne => ?_⟩
      exact World.heap_setCells_other (w.drewN q) g 0 vs hk (fun e => hne (by rw [e]; rfl))
/-! ### one number other -/
theorem IntsS.keepB {w w' : World} {S : Nat → Prop} {v : Value} {s : List Int} (h : IntsS w S v s) (hb : Below w.heap.size w w') : IntsS w' S v s := IntsS.reads.keep h hb.size (fun b hs hl => ⟨hs, hb.block b hl⟩)
set_option maxHeartbeats 1000000 in
theorem with_any (l : List Int) (lv : Value) (i : Nat) (x : Int) (p : Nat) (w : World) (hi : i < l.length) (hl : l.length ≤ 17592186044416) (hx : In64 x) (hp : Blk w p #[lv] 38) (h : IntsAt w lv l) :
    Calls Try.prog 46 #[.int .i64 i, .int .i64 x, .pointer (some ⟨p, 0, none⟩)] w fun e w' => (∃ u, e = .returned u ∧ IntsS w' (fun b => w.heap.size ≤ b) u (l.set i x)) ∧ Below w.heap.size w w' := by
  have c0 := hp.cell 0
  have h64 := Lib.hid h.1
  have C1 := Lib.hid (clone_any l lv w hl h)
  obtain ⟨lad, lcap, rfl, _⟩ := h.form
  simp only [List.getElem?_toArray, List.getElem?_cons_succ, List.getElem?_cons_zero] at c0
  clear h
  go_enter Try.func46, Try.ntmps46
  go_wp2_with fail
  refine C1.out.mono ?_
  rintro e w1 ⟨⟨u, rfl, hu⟩, hb1⟩
  rcases hu.2 with ⟨_, h0⟩ | ⟨g, cap, cur, rfl, hg, hh, hn, hm, hcs, htake⟩
  · omega
  have hst := World.ownsRow.stored hu i (.int .i64 x)
  have huc := (hu.at h64.out)
  have hgl : g < w1.heap.size := (Array.getElem?_eq_some_iff.1 hh).1
  have hfr : w1.frozen? ⟨g, i, none⟩ = false := Joins.unfrozen_of_block hh _
  have hcell : w1.cell? ⟨g, i, none⟩ = some (.int .i64 (l.getD i 0)) := by
    rcases huc.2 with ⟨e, _⟩ | ⟨a, c', e, _, _, hc⟩
    · cases e
    · simp only [Value.slice.injEq, Option.some.injEq] at e
      obtain ⟨rfl, _, _⟩ := e
      have := hc i hi
      rw [addr_add, Nat.zero_add] at this
      exact this
  have p1 : (0 : Int) ≤ (i : Int) := by omega
  have p2 : (i : Int) < (l.length : Int) := by omega
  have hlen : (l.set i x).length = l.length := by simp
  have hown : OwnInts (w1.setCell ⟨g, i, none⟩ (.int .i64 x)) w.heap.size (.slice (some ⟨g, 0, none⟩) l.length cap) (l.set i x) := by
    unfold OwnInts
    rw [hlen, List.map_set]
    exact hst.1
  have HO := Lib.hid (hown.s (fun n hn => by rcases List.mem_or_eq_of_mem_set hn with h | h; exact h64.out n h; rw [h]; exact hx))
  have HB : Hid (Below w.heap.size w (w1.setCell ⟨g, i, none⟩ (.int .i64 x))) := hb1.setCell hg _
  unfold maxLen at hm
  clear hst huc hown hlen hh htake hcs hu c0 hb1
  go_wp2_with fail
  go_ret
  exact ⟨⟨_, rfl, HO.out.mono (fun b hb _ => by simp [Value.ownBlock] at hb; omega)⟩, HB.out⟩
end Go.Proofs.Ytjobgkcoblpbcaa
