/- The walks through rank's small functions: a count, so many times, what comes behind a choice, a product. -/
import Derived.Test.YtjobgkcoblpbcaaPRank
import Derived.Test.YtjobgkcoblpbcaaRws
import Derived.Test.YtjobgkcoblpbcaaGenN
import Derived.Deep.LoopGhost
import Derived.Deep.DeepCutAuto
namespace Go.Proofs.Ytjobgkcoblpbcaa
open Go.RowKit
set_option linter.unusedSimpArgs false
set_option linter.unusedVariables false
theorem OwnGs.form2 {w0 w : World} {lo : Nat} {v : Value} {s : List GT} (h : OwnGs w0 w lo v s) : ∀ b, v.ownBlock = some b → lo ≤ b ∧ b < w.heap.size := by
  obtain ⟨cs, hown, hc⟩ := h
  exact World.ownsRow.lt hown
theorem ownsRow_mono {w : World} {lo lo' : Nat} {e : TypeId} {size : Nat} {v : Value} {n : Nat} {xs : List Value} (h : w.ownsRow lo e size v n xs) (hl : lo' ≤ lo) : w.ownsRow lo' e size v n xs := by
  refine ⟨h.1, ?_⟩
  rcases h.2 with h2 | ⟨g, cap, cur, hv, hg, r⟩
  · exact .inl h2
  · exact .inr ⟨g, cap, cur, hv, by omega, r⟩
theorem OwnGs.mono {w0 w : World} {lo lo' : Nat} {v : Value} {s : List GT} (h : OwnGs w0 w lo v s) (hl : lo' ≤ lo) : OwnGs w0 w lo' v s := by
  obtain ⟨cs, ho, hc⟩ := h
  exact ⟨cs, ownsRow_mono ho hl, hc⟩
theorem GT.Ok.countR {x : GT} (h : GT.Ok x) : GT.countR x = (GT.count x, 0) := by
  unfold GT.countR
  rw [if_pos h.1, if_neg (by have := h.2; omega)]
set_option maxHeartbeats 1000000 in
theorem rcount_any (x : GT) (v : Value) (w0 w : World) (hb : Below w0.heap.size w0 w) (hg : GenAt w0 v x) (hk : GT.Ok x) : Calls Try.prog 53 #[v] w fun e w' => e = .returned (.int .i64 (GT.count x)) ∧ Below w.heap.size w w' := by
  have hg1 := hg.ext hb
  obtain ⟨k, a, b, t, ad, cap, rfl⟩ := hg.shape
  have C1 := Lib.hid (fun W (h : Below w.heap.size w W) => gen_count_any x (.agg #[.int .i64 k, .int .i64 a, .int .i64 b, .slice ad t cap]) W (hg1.ext h))
  rw [hk.countR, errV_zero] at C1
  clear hg hg1 hb hk
  go_enter Try.func53, Try.ntmps53
  go_wp2_with fail
  refine (C1.out _ (by repeat (first | with_reducible assumption | with_reducible exact Below.refl _ _ | with_reducible apply Below.drew | (with_reducible refine Below.alloc ?_ (by first | omega | (simp only [World.size_alloc, size_setCell, size_drew, size_drewN]; omega) | (dsimp only; omega) | (simp only [World.size_alloc, size_setCell, size_drew, size_drewN]; dsimp only; omega)) _) | (with_reducible refine Below.setCell ?_ (by first | omega | (simp only [World.size_alloc, size_setCell, size_drew, size_drewN]; omega) | (dsimp only; omega) | (simp only [World.size_alloc, size_setCell, size_drew, size_drewN]; dsimp only; omega)) _)))).mono ?_
  rintro e w1 ⟨rfl, hb1⟩
  have hB1 : Below w.heap.size w w1 := Below.trans (by repeat (first | with_reducible assumption | with_reducible exact Below.refl _ _ | with_reducible apply Below.drew | (with_reducible refine Below.alloc ?_ (by first | omega | (simp only [World.size_alloc, size_setCell, size_drew, size_drewN]; omega) | (dsimp only; omega) | (simp only [World.size_alloc, size_setCell, size_drew, size_drewN]; dsimp only; omega)) _) | (with_reducible refine Below.setCell ?_ (by first | omega | (simp only [World.size_alloc, size_setCell, size_drew, size_drewN]; omega) | (dsimp only; omega) | (simp only [World.size_alloc, size_setCell, size_drew, size_drewN]; dsimp only; omega)) _))) (hb1.mono (by first | omega | (simp only [World.size_alloc, size_setCell, size_drew, size_drewN]; omega) | (dsimp only; omega) | (simp only [World.size_alloc, size_setCell, size_drew, size_drewN]; dsimp only; omega)))
  obtain ⟨hc1, hf1, hz1⟩ := bcell hb1
  try simp only [World.size_alloc, size_setCell, size_drew, size_drewN] at hz1
  clear hb1
  have y1_0 : w.heap.size < w1.heap.size := by omega
  go_wp2_with fail
  go_ret
  exact ⟨rfl, by repeat (first | with_reducible assumption | with_reducible exact Below.refl _ _ | with_reducible apply Below.drew | (with_reducible refine Below.alloc ?_ (by first | omega | (simp only [World.size_alloc, size_setCell, size_drew, size_drewN]; omega) | (dsimp only; omega) | (simp only [World.size_alloc, size_setCell, size_drew, size_drewN]; dsimp only; omega)) _) | (with_reducible refine Below.setCell ?_ (by first | omega | (simp only [World.size_alloc, size_setCell, size_drew, size_drewN]; omega) | (dsimp only; omega) | (simp only [World.size_alloc, size_setCell, size_drew, size_drewN]; dsimp only; omega)) _))⟩
set_option maxHeartbeats 2000000 in
theorem times_any (x : GT) (v : Value) (n : Nat) (hn : n ≤ 1000) (w0 w : World) (hb : Below w0.heap.size w0 w) (hg : GenAt w0 v x) :
    Calls Try.prog 54 #[v, .int .i64 n] w fun e w' => (∃ u, e = .returned u ∧ OwnGs w0 w' w.heap.size u (List.replicate n x)) ∧ Below w.heap.size w w' := by
  obtain ⟨k, a, b, t, ad, cap, rfl⟩ := hg.shape
  have hz0 := hb.size
  go_enter Try.func54, Try.ntmps54
  go_wp2_with fail
  have x1 : Blk (w.alloc (.cells #[.int .i64 k, .int .i64 a, .int .i64 b, .slice ad t cap] 43)) w.heap.size #[.int .i64 k, .int .i64 a, .int .i64 b, .slice ad t cap] 43 := Blk.new _ _ _
  have hB : Below w.heap.size w (w.alloc (.cells #[.int .i64 k, .int .i64 a, .int .i64 b, .slice ad t cap] 43)) := by repeat (first | with_reducible assumption | with_reducible exact Below.refl _ _ | with_reducible apply Below.drew | (with_reducible refine Below.alloc ?_ (by first | omega | (simp only [World.size_alloc, size_setCell, size_drew, size_drewN]; omega) | (dsimp only; omega) | (simp only [World.size_alloc, size_setCell, size_drew, size_drewN]; dsimp only; omega)) _) | (with_reducible refine Below.setCell ?_ (by first | omega | (simp only [World.size_alloc, size_setCell, size_drew, size_drewN]; omega) | (dsimp only; omega) | (simp only [World.size_alloc, size_setCell, size_drew, size_drewN]; dsimp only; omega)) _))
  have hz : (w.alloc (.cells #[.int .i64 k, .int .i64 a, .int .i64 b, .slice ad t cap] 43)).heap.size = w.heap.size + 1 := by simp
  generalize w.alloc (.cells #[.int .i64 k, .int .i64 a, .int .i64 b, .slice ad t cap] 43) = W at *
  go_loopw [5, 7] (fun o i wr => ∃ j : Nat, j ≤ n ∧ i = .int .i64 j ∧ OwnGs w0 wr (w.heap.size + 1) o (List.replicate j x) ∧ Below w.heap.size w wr ∧ Blk wr w.heap.size #[.int .i64 k, .int .i64 a, .int .i64 b, .slice ad t cap] 43) (fun _ i _ => n - (intOf i).toNat)
  case atStart => exact ⟨0, by omega, rfl, OwnGs.nil _ _ _, hB, x1⟩
  case round =>
    obtain ⟨j, hj, rfl, hown, hbr, y1⟩ := hrel
    have hzr := hbr.size
    by_cases hlt : j < n
    · have hl : (j : Int) < (n : Int) := by omega
      have c0 := y1.cell 0
      have c1 := y1.cell 1
      have c2 := y1.cell 2
      have c3 := y1.cell 3
      have hlr := y1.lt
      simp only [List.getElem?_toArray, List.getElem?_cons_succ, List.getElem?_cons_zero] at c0 c1 c2 c3
      go_wp2_with (at_builtin; refine append_gens (o := ⟨some 12, _, _, _, _, _⟩) rfl _ _ rfl rfl (hown.ext (by repeat (first | with_reducible assumption | with_reducible exact Below.refl _ _ | with_reducible apply Below.drew | (with_reducible refine Below.alloc ?_ (by first | omega | (simp only [World.size_alloc, size_setCell, size_drew, size_drewN]; omega) | (dsimp only; omega) | (simp only [World.size_alloc, size_setCell, size_drew, size_drewN]; dsimp only; omega)) _) | (with_reducible refine Below.setCell ?_ (by first | omega | (simp only [World.size_alloc, size_setCell, size_drew, size_drewN]; omega) | (dsimp only; omega) | (simp only [World.size_alloc, size_setCell, size_drew, size_drewN]; dsimp only; omega)) _)))) rfl (.inr ⟨⟨wr.heap.size, 0, none⟩, 1, rfl, World.news_of_block (Blk.new _ _ _)⟩) (CellsOf.one hg) (by simp; omega) (by simp; omega) ?_; intro v6 w6 h1 h2 h3 h4; have hlo := (fun b e => (hown.form2 b e)); have b6 := (h2.block w.heap.size (by simp; omega) (fun e => by have := hlo _ e.symm; omega)).trans (y1.alloc _); have hB6 : Below w.heap.size w w6 := (hbr.trans ((Below.refl _ _).alloc (by omega) _)).grown h2 (by simp; omega) (fun k hk => by have := hlo _ hk; omega); clear h2 h3 h4 hlo hown)
      have h1' : OwnGs w0 w6 (w.heap.size + 1) v6 (List.replicate (j + 1) x) := by rw [List.replicate_succ']; exact h1
      have b6' : Blk w6 w.heap.size #[.int .i64 k, .int .i64 a, .int .i64 b, .slice ad t cap] 43 := b6
      have hB6' := hB6
      have H := Lib.hid (And.intro h1' (And.intro hB6' b6'))
      clear h1 h1' b6 b6' hB6 hB6'
      go_wp2_with fail
      exact ⟨⟨j + 1, by omega, by go_num, H.out.1, H.out.2.1, H.out.2.2⟩, by simp [intOf]; omega⟩
    · have hl : ¬ (j : Int) < (n : Int) := by omega
      obtain rfl : j = n := by omega
      have H := Lib.hid (hown.mono (by omega : w.heap.size ≤ w.heap.size + 1))
      clear hown
      go_wp2_with fail
      go_ret
      exact ⟨⟨_, rfl, H.out⟩, hbr⟩
theorem GT.prodL_take_succ (l : List GT) (j : Nat) (h : j < l.length) : GT.prodL (l.take (j + 1)) = GT.prodL (l.take j) * GT.count l[j] := by
  rw [List.take_add_one, List.getElem?_eq_getElem h, GT.prodL_append]; simp [GT.prodL]
theorem GT.prodL_take_le (l : List GT) (h : GT.OkL l) (j : Nat) : 1 ≤ GT.prodL (l.take j) ∧ GT.prodL (l.take j) ≤ GT.prodL l := by
  have h1 : 1 ≤ GT.prodL (l.take j) := GT.prodL_pos _ (fun x hx => (h x (List.mem_of_mem_take hx)).pos)
  have h2 : 1 ≤ GT.prodL (l.drop j) := GT.prodL_pos _ (fun x hx => (h x (List.mem_of_mem_drop hx)).pos)
  have e : GT.prodL l = GT.prodL (l.take j) * GT.prodL (l.drop j) := by rw [← GT.prodL_append, List.take_append_drop]
  refine ⟨h1, ?_⟩
  rw [e]
  have := Int.mul_le_mul_of_nonneg_left h2 (show 0 ≤ GT.prodL (l.take j) by omega)
  omega
set_option maxHeartbeats 2000000 in
theorem product_any (l : List GT) (hl : GT.OkL l) (hp : GT.prodL l ≤ 1048576) (S : Nat → Prop) (v : Value) (w0 w : World) (hb : Below w0.heap.size w0 w) (hv : GsV w0 w S v l) :
    Calls Try.prog 43 #[v] w fun e w' => e = .returned (.int .i64 (GT.prodL l)) ∧ Below w.heap.size w w' := by
  obtain ⟨ad, cap, rfl, h1, h2, h3, hg⟩ := hv
  have hz0 := hb.size
  have HL := Lib.hid hl
  have HP := Lib.hid hp
  unfold maxLen at h2
  clear hl hp h3
  go_enter Try.func43, Try.ntmps43
  go_wp2_with fail
  go_loopw [3, 8] (fun n i wr => ∃ j : Nat, j ≤ l.length ∧ i = .int .i64 j ∧ n = .int .i64 (GT.prodL (l.take j)) ∧ Below w.heap.size w wr) (fun _ i _ => l.length - (intOf i).toNat)
  case atStart => exact ⟨0, by omega, rfl, rfl, Below.refl _ _⟩
  case round =>
    obtain ⟨j, hj, rfl, rfl, hbr⟩ := hrel
    have hzr := hbr.size
    by_cases hlt : j < l.length
    · have q1 : (j : Int) < (l.length : Int) := by omega
      have q0 : (0 : Int) ≤ (j : Int) := by omega
      obtain ⟨bl, off, rfl, hlt1, hs, hc⟩ := hg.at' (by omega)
      obtain ⟨k2, a2, b2, t2, ad2, cap2, c0, c1, c2, c3, hg2⟩ := hc j hlt
      clear hc hg
      obtain ⟨g1, g2, g3⟩ := bcell hbr
      have hok := HL.out l[j] (List.getElem_mem hlt)
      have C1 := Lib.hid (fun W (h : Below w.heap.size w W) => rcount_any l[j] (.agg #[.int .i64 k2, .int .i64 a2, .int .i64 b2, .slice ad2 t2 cap2]) w0 W (hb.trans (h.mono hz0)) hg2 hok)
      have HS := Lib.hid (GT.prodL_take_succ l j hlt)
      have hb1 := GT.prodL_take_le l HL.out j
      have hb2 := GT.prodL_take_le l HL.out (j + 1)
      have hw : IntKind.i64.wrap (GT.prodL (l.take j) * GT.count l[j]) = GT.prodL (l.take j) * GT.count l[j] := by
        rw [← HS.out]
        exact IntWalk.i64_in _ (by have := HP.out; omega)
      have HW := Lib.hid hw
      clear hw hb1 hb2
      generalize GT.count l[j] = cn at *
      go_wp2_with fail
      refine (C1.out _ (by repeat (first | with_reducible assumption | with_reducible exact Below.refl _ _ | with_reducible apply Below.drew | (with_reducible refine Below.alloc ?_ (by first | omega | (simp only [World.size_alloc, size_setCell, size_drew, size_drewN]; omega) | (dsimp only; omega) | (simp only [World.size_alloc, size_setCell, size_drew, size_drewN]; dsimp only; omega)) _) | (with_reducible refine Below.setCell ?_ (by first | omega | (simp only [World.size_alloc, size_setCell, size_drew, size_drewN]; omega) | (dsimp only; omega) | (simp only [World.size_alloc, size_setCell, size_drew, size_drewN]; dsimp only; omega)) _)))).mono ?_
      rintro e w3 ⟨rfl, hb3⟩
      have hB3 : Below w.heap.size w w3 := Below.trans (by repeat (first | with_reducible assumption | with_reducible exact Below.refl _ _ | with_reducible apply Below.drew | (with_reducible refine Below.alloc ?_ (by first | omega | (simp only [World.size_alloc, size_setCell, size_drew, size_drewN]; omega) | (dsimp only; omega) | (simp only [World.size_alloc, size_setCell, size_drew, size_drewN]; dsimp only; omega)) _) | (with_reducible refine Below.setCell ?_ (by first | omega | (simp only [World.size_alloc, size_setCell, size_drew, size_drewN]; omega) | (dsimp only; omega) | (simp only [World.size_alloc, size_setCell, size_drew, size_drewN]; dsimp only; omega)) _))) (hb3.mono (by first | omega | (simp only [World.size_alloc, size_setCell, size_drew, size_drewN]; omega) | (dsimp only; omega) | (simp only [World.size_alloc, size_setCell, size_drew, size_drewN]; dsimp only; omega)))
      clear hb3 c0 c1 c2 c3
      have hw := HW.out
      go_wp2_with fail
      exact ⟨⟨j + 1, by omega, by go_num, congrArg _ HS.out.symm, hB3⟩, by simp [intOf]; omega⟩
    · have hl : ¬ (j : Int) < (l.length : Int) := by omega
      obtain rfl : j = l.length := by omega
      rw [List.take_length]
      go_wp2_with fail
      go_ret
      exact ⟨rfl, hbr⟩
end Go.Proofs.Ytjobgkcoblpbcaa
