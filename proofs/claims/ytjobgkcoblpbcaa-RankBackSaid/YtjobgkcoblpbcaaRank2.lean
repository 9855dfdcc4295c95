/- The walk through what comes behind a choice. -/
import Derived.Test.YtjobgkcoblpbcaaRank1
import Derived.Deep.OwnRows
namespace Go.Proofs.Ytjobgkcoblpbcaa
open Go.RowKit
set_option linter.unusedSimpArgs false
set_option linter.unusedVariables false
theorem OwnGs.shape {w0 w : World} {lo : Nat} {v : Value} {s : List GT} (h : OwnGs w0 w lo v s) : ∃ a n c, v = .slice a n c := by
  obtain ⟨ad, cap, e, _⟩ := h.form
  exact ⟨_, _, _, e⟩
theorem Blk.newAt {w : World} {cs : Array Value} {t : TypeId} {n : Nat} (h : n = w.heap.size) : Blk (w.alloc (.cells cs t)) n cs t := by subst h; exact Blk.new _ _ _
theorem gsv_new {w0 w : World} {S : Nat → Prop} {b : Nat} {k a c : Int} {t cap : Nat} {ad : Option Addr} {x : GT} (hb : Blk w b #[.int .i64 k, .int .i64 a, .int .i64 c, .slice ad t cap] 43) (hS : S b) (hg : GenAt w0 (.agg #[.int .i64 k, .int .i64 a, .int .i64 c, .slice ad t cap]) x) :
    GsV w0 w S (.slice (some ⟨b, 0, none⟩) 1 1) [x] := by
  refine ⟨some ⟨b, 0, none⟩, 1, rfl, by simp, by decide, (fun e => by cases e), ⟨fun _ => ⟨b, 0, rfl, hb.lt, hS, fun i hi => ?_⟩⟩⟩
  obtain rfl : i = 0 := by simpa using hi
  exact ⟨k, a, c, t, ad, cap, hb.cell 0, hb.cell 1, hb.cell 2, hb.cell 3, hg⟩
/-- What branches gives: nil where there is no choice; else a row for each choice. -/
def BrsAt (w0 w : World) (lo : Nat) (v : Value) (g : GT) : Prop := RwAt (GsV w0) w (fun b => lo ≤ b) v (GT.brs g)
theorem GT.brs_4 (a b : Int) (x : GT) (j : Nat) : (List.range (j + 1)).map (GT.rep [x]) = (List.range j).map (GT.rep [x]) ++ [List.replicate j x] := by
  rw [List.range_succ, List.map_append]; rfl
theorem take_map_snoc (s : List GT) (j : Nat) (h : j < s.length) : (s.take (j + 1)).map (fun x => [x]) = (s.take j).map (fun x => [x]) ++ [[s[j]]] := by
  rw [List.take_add_one, List.getElem?_eq_getElem h, List.map_append]; rfl
set_option maxHeartbeats 4000000 in
theorem branches_2 (a b : Int) (s : List GT) (ad : Option Addr) (n cap : Nat) (h1 : a ≤ b) (h2 : b - a ≤ 1000) (h3 : -1073741824 ≤ a) (h4 : b ≤ 1073741824) (w0 w : World) (hb : Below w0.heap.size w0 w) :
    Calls Try.prog 44 #[.agg #[.int .i64 2, .int .i64 a, .int .i64 b, .slice ad n cap]] w fun e w' => (∃ u, e = .returned u ∧ u ≠ .slice none 0 0 ∧ BrsAt w0 w' w.heap.size u (.mk 2 a b s)) ∧ Below w.heap.size w w' := by
  obtain ⟨m, hm⟩ : ∃ m : Nat, b - a + 1 = m := ⟨(b - a + 1).toNat, by omega⟩
  have hmm : m ≤ 1001 := by omega
  have hm0 : (0 : Int) ≤ b - a + 1 := by omega
  have HM := Lib.hid hm
  have hmk : ∀ w : World, (Instr.makeSlice 81 (.int .i64 (b - a + 1)) (.int .i64 (b - a + 1))).run Try.prog w = .ok (.slice (some ⟨w.heap.size, 0, none⟩) m m) (w.alloc (.cells (madeCells #[.slice none 0 0] m) 41)) := by
    intro w
    rw [HM.out]
    exact run_make_row' 81 41 (.slice none 0 0) 24 Try.underlying81 info_gens rfl .i64 .i64 m (by omega) (by omega) w
  clear hm
  go_enter Try.func44, Try.ntmps44
  go_wp2_with fail
  clear hmk
  have hr := World.rowIs_made (w.alloc (.cells #[.int .i64 2, .int .i64 a, .int .i64 b, .slice ad n cap] 43)) (.slice none 0 0) m 41
  simp only [World.size_alloc] at hr
  have hB : Below w.heap.size w ((w.alloc (.cells #[.int .i64 2, .int .i64 a, .int .i64 b, .slice ad n cap] 43)).alloc (.cells (madeCells #[.slice none 0 0] m) 41)) := by repeat (first | with_reducible assumption | with_reducible exact Below.refl _ _ | with_reducible apply Below.drew | (with_reducible refine Below.alloc ?_ (by first | omega | (simp only [World.size_alloc, size_setCell, size_drew, size_drewN]; omega) | (dsimp only; omega) | (simp only [World.size_alloc, size_setCell, size_drew, size_drewN]; dsimp only; omega)) _) | (with_reducible refine Below.setCell ?_ (by first | omega | (simp only [World.size_alloc, size_setCell, size_drew, size_drewN]; omega) | (dsimp only; omega) | (simp only [World.size_alloc, size_setCell, size_drew, size_drewN]; dsimp only; omega)) _))
  have hz : ((w.alloc (.cells #[.int .i64 2, .int .i64 a, .int .i64 b, .slice ad n cap] 43)).alloc (.cells (madeCells #[.slice none 0 0] m) 41)).heap.size = w.heap.size + 2 := by simp
  have HR := Lib.hid hr
  clear hr
  go_ret
  refine ⟨⟨_, rfl, by simp, some ⟨w.heap.size + 1, 0, none⟩, m, ?_, ?_, by unfold maxLen; omega, (fun e => by cases e), fun _ => ⟨w.heap.size + 1, 0, rfl, by omega, by omega, fun i hi => ⟨.slice none 0 0, ?_, ?_⟩⟩⟩, hB⟩
  · have e : (GT.brs (.mk 2 a b s)).length = m := by simp [GT.brs]; have := HM.out; omega
    rw [e]; rfl
  · have e : (GT.brs (.mk 2 a b s)).length = m := by simp [GT.brs]; have := HM.out; omega
    omega
  · have e : (GT.brs (.mk 2 a b s)).length = m := by simp [GT.brs]; have := HM.out; omega
    rw [Nat.zero_add]
    exact HR.out.cell (by omega)
  · have e : (GT.brs (.mk 2 a b s))[i] = [] := by simp [GT.brs]
    rw [e]
    exact GsV.nil _ _ _
theorem branches_1 (a b : Int) (s : List GT) (ad : Option Addr) (n cap : Nat) (w0 w : World) :
    Calls Try.prog 44 #[.agg #[.int .i64 1, .int .i64 a, .int .i64 b, .slice ad n cap]] w fun e w' => e = .returned (.slice none 0 0) ∧ Below w.heap.size w w' := by
  go_enter Try.func44, Try.ntmps44
  go_wp2_with fail
  go_ret
  exact ⟨rfl, by repeat (first | with_reducible assumption | with_reducible exact Below.refl _ _ | with_reducible apply Below.drew | (with_reducible refine Below.alloc ?_ (by first | omega | (simp only [World.size_alloc, size_setCell, size_drew, size_drewN]; omega) | (dsimp only; omega) | (simp only [World.size_alloc, size_setCell, size_drew, size_drewN]; dsimp only; omega)) _) | (with_reducible refine Below.setCell ?_ (by first | omega | (simp only [World.size_alloc, size_setCell, size_drew, size_drewN]; omega) | (dsimp only; omega) | (simp only [World.size_alloc, size_setCell, size_drew, size_drewN]; dsimp only; omega)) _))⟩
set_option maxHeartbeats 4000000 in
theorem branches_4 (A : Nat) (b : Int) (x : GT) (ad : Option Addr) (cap : Nat) (hA : A ≤ 5) (w0 w : World) (hg : GensAt w0 ad [x]) (hb : Below w0.heap.size w0 w) :
    Calls Try.prog 44 #[.agg #[.int .i64 4, .int .i64 A, .int .i64 b, .slice ad 1 cap]] w fun e w' => (∃ u, e = .returned u ∧ u ≠ .slice none 0 0 ∧ BrsAt w0 w' w.heap.size u (.mk 4 A b [x])) ∧ Below w.heap.size w w' := by
  obtain ⟨bl, off, rfl, hlt1, hc⟩ := hg.at' (by simp)
  obtain ⟨k2, a2, b2, t2, ad2, cap2, c0, c1, c2, c3, hg2⟩ := hc 0 (by simp)
  simp only [Nat.zero_mul, Nat.add_zero, List.getElem_cons_zero] at c0 c1 c2 c3 hg2
  clear hc hg
  have hz0 := hb.size
  have CT := Lib.hid (fun W (j : Nat) (hj : j ≤ 1000) (h : Below w.heap.size w W) => times_any x (.agg #[.int .i64 k2, .int .i64 a2, .int .i64 b2, .slice ad2 t2 cap2]) j hj w0 W (hb.trans (h.mono hz0)) hg2)
  have d0 := (hb.cell (p := ⟨bl, off, none⟩) hlt1).trans c0
  have d1 := (hb.cell (p := ⟨bl, off + 1, none⟩) hlt1).trans c1
  have d2 := (hb.cell (p := ⟨bl, off + 2, none⟩) hlt1).trans c2
  have d3 := (hb.cell (p := ⟨bl, off + 3, none⟩) hlt1).trans c3
  clear c0 c1 c2 c3 hg2
  have hltw : bl < w.heap.size := by omega
  go_enter Try.func44, Try.ntmps44
  go_wp2_with fail
  have x1 : Blk (w.alloc (.cells #[.int .i64 4, .int .i64 A, .int .i64 b, .slice (some ⟨bl, off, none⟩) 1 cap] 43)) w.heap.size #[.int .i64 4, .int .i64 A, .int .i64 b, .slice (some ⟨bl, off, none⟩) 1 cap] 43 := Blk.new _ _ _
  have hB : Below w.heap.size w (w.alloc (.cells #[.int .i64 4, .int .i64 A, .int .i64 b, .slice (some ⟨bl, off, none⟩) 1 cap] 43)) := by repeat (first | with_reducible assumption | with_reducible exact Below.refl _ _ | with_reducible apply Below.drew | (with_reducible refine Below.alloc ?_ (by first | omega | (simp only [World.size_alloc, size_setCell, size_drew, size_drewN]; omega) | (dsimp only; omega) | (simp only [World.size_alloc, size_setCell, size_drew, size_drewN]; dsimp only; omega)) _) | (with_reducible refine Below.setCell ?_ (by first | omega | (simp only [World.size_alloc, size_setCell, size_drew, size_drewN]; omega) | (dsimp only; omega) | (simp only [World.size_alloc, size_setCell, size_drew, size_drewN]; dsimp only; omega)) _))
  have hz : (w.alloc (.cells #[.int .i64 4, .int .i64 A, .int .i64 b, .slice (some ⟨bl, off, none⟩) 1 cap] 43)).heap.size = w.heap.size + 1 := by simp
  generalize w.alloc (.cells #[.int .i64 4, .int .i64 A, .int .i64 b, .slice (some ⟨bl, off, none⟩) 1 cap] 43) = W at *
  go_loopw [3, 23] (fun o i wr => ∃ j : Nat, j ≤ A + 1 ∧ i = .int .i64 j ∧ OwnRw (GsV w0) 41 wr (w.heap.size + 1) o ((List.range j).map (GT.rep [x])) ∧ Below w.heap.size w wr ∧ Blk wr w.heap.size #[.int .i64 4, .int .i64 A, .int .i64 b, .slice (some ⟨bl, off, none⟩) 1 cap] 43) (fun _ i _ => A + 1 - (intOf i).toNat)
  case atStart => exact ⟨0, by omega, rfl, OwnRw.nil _ _ _ _, hB, x1⟩
  case round =>
    obtain ⟨j, hj, rfl, hown, hbr, y1⟩ := hrel
    have hzr := hbr.size
    by_cases hlt : j < A + 1
    · have hl : (j : Int) < (A : Int) + 1 := by omega
      have e3 := y1.cell 3
      have hlr := y1.lt
      simp only [List.getElem?_toArray, List.getElem?_cons_succ, List.getElem?_cons_zero] at e3
      have f0 := (hbr.cell (p := ⟨bl, off, none⟩) hltw).trans d0
      have f1 := (hbr.cell (p := ⟨bl, off + 1, none⟩) hltw).trans d1
      have f2 := (hbr.cell (p := ⟨bl, off + 2, none⟩) hltw).trans d2
      have f3 := (hbr.cell (p := ⟨bl, off + 3, none⟩) hltw).trans d3
      have hlo := Lib.hid hown.lt
      go_wp2_with fail
      refine (CT.out _ _ (by omega) (by repeat (first | with_reducible assumption | with_reducible exact Below.refl _ _ | with_reducible apply Below.drew | (with_reducible refine Below.alloc ?_ (by first | omega | (simp only [World.size_alloc, size_setCell, size_drew, size_drewN]; omega) | (dsimp only; omega) | (simp only [World.size_alloc, size_setCell, size_drew, size_drewN]; dsimp only; omega)) _) | (with_reducible refine Below.setCell ?_ (by first | omega | (simp only [World.size_alloc, size_setCell, size_drew, size_drewN]; omega) | (dsimp only; omega) | (simp only [World.size_alloc, size_setCell, size_drew, size_drewN]; dsimp only; omega)) _)))).mono ?_
      rintro e w3 ⟨⟨u, rfl, hu⟩, hb3⟩
      have hB3 : Below w.heap.size w w3 := Below.trans (by repeat (first | with_reducible assumption | with_reducible exact Below.refl _ _ | with_reducible apply Below.drew | (with_reducible refine Below.alloc ?_ (by first | omega | (simp only [World.size_alloc, size_setCell, size_drew, size_drewN]; omega) | (dsimp only; omega) | (simp only [World.size_alloc, size_setCell, size_drew, size_drewN]; dsimp only; omega)) _) | (with_reducible refine Below.setCell ?_ (by first | omega | (simp only [World.size_alloc, size_setCell, size_drew, size_drewN]; omega) | (dsimp only; omega) | (simp only [World.size_alloc, size_setCell, size_drew, size_drewN]; dsimp only; omega)) _))) (hb3.mono (by first | omega | (simp only [World.size_alloc, size_setCell, size_drew, size_drewN]; omega) | (dsimp only; omega) | (simp only [World.size_alloc, size_setCell, size_drew, size_drewN]; dsimp only; omega)))
      have hown3 := hown.keep (GsV.reads w0) hb3
      have y3 := y1.ext hb3
      have hz3 := hb3.size
      have hul := hu.form2
      have hv3 : GsV w0 w3 (fun b => w.heap.size + 1 ≤ b ∧ u3.ownBlock ≠ some b) u (List.replicate j x) := hu.v.mono (fun b hb _ => by
        have h1 := hul b hb
        exact ⟨by omega, fun e => by have := hlo.out b e; omega⟩)
      obtain ⟨uad, ulen, ucap, rfl⟩ := hu.shape
      go_wp2_with (at_builtin; refine append_rw (GsV.reads w0) (v := u3) (o := ⟨some 34, _, _, _, _, _⟩) rfl _ _ 81 41 rfl Try.underlying81 info_gens rfl (hown3.keep (GsV.reads w0) ((Below.refl _ _).alloc (Nat.le_refl _) _)) rfl (Blk.new _ _ _) ((GsV.reads w0).keep hv3 (by simp) (fun b hb hl => ⟨hb, Below.heap_alloc _ _ b hl⟩)) (by simp; omega) (by simp; omega) ?_; intro v6 w6 h1 h2 h3; clear h3)
      have b6 := (h2.block w.heap.size (by simp; omega) (fun e => by have := hlo.out _ e.symm; omega)).trans (y3.alloc _)
      have hB6 : Below w.heap.size w w6 := (hB3.trans ((Below.refl _ _).alloc (by omega) _)).grown h2 (by simp; omega) (fun k hk => by have := hlo.out _ hk; omega)
      rw [← GT.brs_4 A b x j] at h1
      exact ⟨⟨j + 1, by omega, by go_num, h1, hB6, b6⟩, by simp [intOf]; omega⟩
    · have hl : ¬ (j : Int) < (A : Int) + 1 := by omega
      obtain rfl : j = A + 1 := by omega
      have hat := hown.at (GsV.reads w0)
      have eB : (List.range (A + 1)).map (GT.rep [x]) = GT.brs (.mk 4 A b [x]) := by simp [GT.brs]
      rw [eB] at hat hown
      have hlen : 0 < (GT.brs (.mk 4 A b [x])).length := by simp [GT.brs]
      have H : Hid (u3 ≠ .slice none 0 0 ∧ BrsAt w0 wr w.heap.size u3 (.mk 4 A b [x])) := by
        refine ⟨fun e => ?_, hat.keep (GsV.reads w0) (Nat.le_refl _) (fun b hb _ => ⟨by omega, rfl⟩)⟩
        obtain ⟨ad, cap, e2, _, _, _, h⟩ := hat
        obtain ⟨bl, off, e3, _⟩ := h hlen
        rw [e2, e3] at e
        cases e
      clear hat hown eB
      go_wp2_with fail
      go_ret
      exact ⟨⟨_, rfl, H.out⟩, hbr⟩
set_option maxHeartbeats 4000000 in
theorem branches_5 (a b : Int) (s : List GT) (ad : Option Addr) (cap : Nat) (hcap : cap ≤ 9223372036854775807) (hs0 : 0 < s.length) (hs1 : s.length ≤ 1000) (w0 w : World) (hg : GensAt w0 ad s) (hb : Below w0.heap.size w0 w) :
    Calls Try.prog 44 #[.agg #[.int .i64 5, .int .i64 a, .int .i64 b, .slice ad s.length cap]] w fun e w' => (∃ u, e = .returned u ∧ u ≠ .slice none 0 0 ∧ BrsAt w0 w' w.heap.size u (.mk 5 a b s)) ∧ Below w.heap.size w w' := by
  obtain ⟨bl, off, rfl, hlt1, hc⟩ := hg.at' hs0
  have HC := Lib.hid hc
  clear hc hg
  have hz0 := hb.size
  have hltw : bl < w.heap.size := by omega
  go_enter Try.func44, Try.ntmps44
  go_wp2_with fail
  have x1 : Blk (w.alloc (.cells #[.int .i64 5, .int .i64 a, .int .i64 b, .slice (some ⟨bl, off, none⟩) s.length cap] 43)) w.heap.size #[.int .i64 5, .int .i64 a, .int .i64 b, .slice (some ⟨bl, off, none⟩) s.length cap] 43 := Blk.new _ _ _
  have hB : Below w.heap.size w (w.alloc (.cells #[.int .i64 5, .int .i64 a, .int .i64 b, .slice (some ⟨bl, off, none⟩) s.length cap] 43)) := by repeat (first | with_reducible assumption | with_reducible exact Below.refl _ _ | with_reducible apply Below.drew | (with_reducible refine Below.alloc ?_ (by first | omega | (simp only [World.size_alloc, size_setCell, size_drew, size_drewN]; omega) | (dsimp only; omega) | (simp only [World.size_alloc, size_setCell, size_drew, size_drewN]; dsimp only; omega)) _) | (with_reducible refine Below.setCell ?_ (by first | omega | (simp only [World.size_alloc, size_setCell, size_drew, size_drewN]; omega) | (dsimp only; omega) | (simp only [World.size_alloc, size_setCell, size_drew, size_drewN]; dsimp only; omega)) _))
  have hz : (w.alloc (.cells #[.int .i64 5, .int .i64 a, .int .i64 b, .slice (some ⟨bl, off, none⟩) s.length cap] 43)).heap.size = w.heap.size + 1 := by simp
  generalize w.alloc (.cells #[.int .i64 5, .int .i64 a, .int .i64 b, .slice (some ⟨bl, off, none⟩) s.length cap] 43) = W at *
  go_loopw [3, 41] (fun o i wr => ∃ j : Nat, j ≤ s.length ∧ i = .int .i64 j ∧ OwnRw (GsV w0) 41 wr (w.heap.size + 1) o ((s.take j).map (fun x => [x])) ∧ Below w.heap.size w wr) (fun _ i _ => s.length - (intOf i).toNat)
  case atStart => exact ⟨0, by omega, rfl, OwnRw.nil _ _ _ _, hB⟩
  case round =>
    obtain ⟨j, hj, rfl, hown, hbr⟩ := hrel
    have hzr := hbr.size
    have hlo := Lib.hid hown.lt
    by_cases hlt : j < s.length
    · have hl : (j : Int) < (s.length : Int) := by omega
      have hp : (0 : Int) ≤ (j : Int) := by omega
      obtain ⟨k2, a2, b2, t2, ad2, cap2, c0, c1, c2, c3, hg2⟩ := HC.out j hlt
      have f0 := (hbr.cell (p := ⟨bl, _, none⟩) hltw).trans ((hb.cell (p := ⟨bl, _, none⟩) hlt1).trans c0)
      have f1 := (hbr.cell (p := ⟨bl, _, none⟩) hltw).trans ((hb.cell (p := ⟨bl, _, none⟩) hlt1).trans c1)
      have f2 := (hbr.cell (p := ⟨bl, _, none⟩) hltw).trans ((hb.cell (p := ⟨bl, _, none⟩) hlt1).trans c2)
      have f3 := (hbr.cell (p := ⟨bl, _, none⟩) hltw).trans ((hb.cell (p := ⟨bl, _, none⟩) hlt1).trans c3)
      clear c0 c1 c2 c3
      have HG := Lib.hid hg2
      clear hg2
      have hlen : ((s.take j).map (fun x => [x])).length = j := by simp; omega
      have HLN := Lib.hid hlen
      clear hlen
      have hbk := ((Blk.new (wr.alloc (.cells #[.int .i64 k2, .int .i64 a2, .int .i64 b2, .slice ad2 t2 cap2] 43)) #[.int .i64 k2, .int .i64 a2, .int .i64 b2, .slice ad2 t2 cap2] 43).alloc (.cells #[.slice (some ⟨wr.heap.size + 1, 0, none⟩) 1 1] 41))
      simp only [World.size_alloc] at hbk
      have HBK := Lib.hid hbk
      clear hbk
      go_wp2_with (at_builtin; refine append_rw (GsV.reads w0) (v := u3) (o := ⟨some 49, _, _, _, _, _⟩) (y := [s[j]]) rfl _ _ 81 41 rfl Try.underlying81 info_gens rfl (hown.keep (GsV.reads w0) (by repeat (first | with_reducible assumption | with_reducible exact Below.refl _ _ | with_reducible apply Below.drew | (with_reducible refine Below.alloc ?_ (by first | omega | (simp only [World.size_alloc, size_setCell, size_drew, size_drewN]; omega) | (dsimp only; omega) | (simp only [World.size_alloc, size_setCell, size_drew, size_drewN]; dsimp only; omega)) _) | (with_reducible refine Below.setCell ?_ (by first | omega | (simp only [World.size_alloc, size_setCell, size_drew, size_drewN]; omega) | (dsimp only; omega) | (simp only [World.size_alloc, size_setCell, size_drew, size_drewN]; dsimp only; omega)) _)))) rfl (Blk.newAt (by simp)) (gsv_new HBK.out ⟨by omega, fun e => by have := hlo.out _ e; omega⟩ HG.out) (by rw [HLN.out]; omega) (by simp; omega) ?_; intro v6 w6 h1 h2 h3; clear h3)
      have hB6 : Below w.heap.size w w6 := (hbr.trans ((((Below.refl _ _).alloc (by omega) _).alloc (by simp; omega) _).alloc (by simp; omega) _)).grown h2 (by simp; omega) (fun k hk => by have := hlo.out _ hk; omega)
      rw [← take_map_snoc s j hlt] at h1
      exact ⟨⟨j + 1, by omega, by go_num, h1, hB6⟩, by simp [intOf]; omega⟩
    · have hl : ¬ (j : Int) < (s.length : Int) := by omega
      obtain rfl : j = s.length := by omega
      rw [List.take_length] at hown
      have hat := hown.at (GsV.reads w0)
      have eB : s.map (fun x => [x]) = GT.brs (.mk 5 a b s) := by simp [GT.brs]
      rw [eB] at hat hown
      have hlen : 0 < (GT.brs (.mk 5 a b s)).length := by simp [GT.brs]; omega
      have H : Hid (u3 ≠ .slice none 0 0 ∧ BrsAt w0 wr w.heap.size u3 (.mk 5 a b s)) := by
        refine ⟨fun e => ?_, hat.keep (GsV.reads w0) (Nat.le_refl _) (fun b hb _ => ⟨by omega, rfl⟩)⟩
        obtain ⟨ad, cap, e2, _, _, _, h⟩ := hat
        obtain ⟨bl, off, e3, _⟩ := h hlen
        rw [e2, e3] at e
        cases e
      clear hat hown eB hlen
      go_wp2_with fail
      go_ret
      exact ⟨⟨_, rfl, H.out⟩, hbr⟩
theorem branches_any (g : GT) (hk : GT.Ok g) (hc : GT.Chs g) (v : Value) (w0 w : World) (hb : Below w0.heap.size w0 w) (hg : GenAt w0 v g) :
    Calls Try.prog 44 #[v] w fun e w' => (∃ u, e = .returned u ∧ u ≠ .slice none 0 0 ∧ BrsAt w0 w' w.heap.size u g) ∧ Below w.heap.size w w' := by
  obtain ⟨k, a, b, s, ad, cap, rfl, rfl, hi, ha, hb', hl, hm, hs⟩ := hg.form
  have hlen := (GT.parts_kids (GT.check_parts hk.1)).1
  rcases hc with h | h | h <;> (simp only [GT.kind] at h; subst h) <;> rcases GT.one_cases (GT.ok_one (GT.check_ok hk.1)) with ⟨e, _⟩ | ⟨e, h0, h0', h1, h2, h3⟩ | e | ⟨e, h1, h2, h3⟩ | ⟨e, h1⟩ <;> try omega
  · exact branches_2 a b s ad _ cap h2 h3 h0' h1 w0 w hb
  · obtain ⟨A, rfl⟩ := Int.eq_ofNat_of_zero_le h2
    match s, h1, hs with
    | [x], _, hs => exact branches_4 A b x ad cap (by omega) w0 w hs hb
  · exact branches_5 a b s ad cap hm (by omega) (by omega) w0 w hs hb
end Go.Proofs.Ytjobgkcoblpbcaa
