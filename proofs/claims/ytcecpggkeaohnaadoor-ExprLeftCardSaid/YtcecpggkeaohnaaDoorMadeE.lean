/- The walk through what a generator makes: a list of so many; all ways. -/
import Derived.Test.YtcecpggkeaohnaaDoorMadeD
namespace Go.Proofs.YtcecpggkeaohnaaDoor
set_option maxRecDepth 100000
open Go.RowKit
set_option linter.unusedSimpArgs false
set_option linter.unusedVariables false
section
variable {σ : Type} {B k p1 p2 : Nat} {st : Int → σ → Except Int (Int × σ)} {J : σ → Nat → World → Prop} {bud : σ → Nat}
theorem times_ok (f : σ → Except Int (VT × σ)) (m j : Nat) (h : j < m) (q q' : σ) (v : VT) (ts : List VT) (e : f q = .ok (v, q')) :
    app ts (GT.times f (m - j) q) = app (ts ++ [v]) (GT.times f (m - (j + 1)) q') := by
  rw [show m - j = (m - (j + 1)) + 1 by omega]
  simp only [GT.times, e]
  cases GT.times f (m - (j + 1)) q' <;> simp [app]
theorem times_err (f : σ → Except Int (VT × σ)) (m j : Nat) (h : j < m) (q : σ) (y : Int) (ts : List VT) (e : f q = .error y) :
    app ts (GT.times f (m - j) q) = .error y := by
  rw [show m - j = (m - (j + 1)) + 1 by omega]
  simp only [GT.times, e]
  rfl
set_option maxHeartbeats 8000000 in
theorem made_4 (C : Cho B k p1 p2 st J bud) (w0 : World) (h0B : w0.heap.size ≤ B) (q : σ) (g : Nat) (w : World) (hJ : J q g w) (hw0 : Below w0.heap.size w0 w) (a b : Int) (ad : Option Addr) (cap : Nat) (x : GT) (hs : GensAt w0 ad [x]) (ha0 : 0 ≤ a) (ha1 : a ≤ 5) (hbq : 1 + 5 * GT.cost x ≤ bud q) (hpb : ∀ q t q', GT.play st x q = .ok (t, q') → bud q ≤ bud q' + GT.cost x)
   (IH : ∀ q g w v, GT.cost x ≤ bud q → J q g w → Below w0.heap.size w0 w → GenAt w0 v x → Calls Tryd.prog 46 #[.func (.func k) #[] #[.pointer (some ⟨p1, 0, none⟩), .pointer (some ⟨p2, 0, none⟩)], v] w (Md w.heap.size p1 p2 J (GT.play st x q) g w)) :
   Calls Tryd.prog 46 #[.func (.func k) #[] #[.pointer (some ⟨p1, 0, none⟩), .pointer (some ⟨p2, 0, none⟩)], .agg #[.int .i64 4, .int .i64 a, .int .i64 b, .slice ad 1 cap]] w (Md w.heap.size p1 p2 J (GT.play st (.mk 4 a b [x]) q) g w) := by
  have hlt := C.lt q g w hJ
  have hk := C.enter
  have HH := Lib.hid (C.call a q g)
  have HBD := Lib.hid (C.bd a q)
  have HBB := Lib.hid (C.bdd a q)
  have HP : Hid (GT.play st (.mk 4 a b [x]) q = match st a q with
      | .error e => .error e
      | .ok (c, q) => asList (app [] (GT.times (fun q => GT.play st x q) (c.toNat - 0) q))) := by
    show _ = _
    simp only [GT.play, GT.playN, show ¬ ((4:Int) = 1) by decide, show ¬ ((4:Int) = 2) by decide, show ¬ ((4:Int) = 3) by decide, if_false, if_pos (rfl : (4:Int) = 4), app_nil, Nat.sub_zero]
    cases st a q with
    | error e => rfl
    | ok r => rfl
  rw [HP.out]
  have IHH := Lib.hid IH
  clear IH HP
  generalize hR0 : st a q = R0 at *
  go_enter Tryd.func46, Tryd.ntmps46
  go_upto_region 14 with (fail)
  generalize hW : ((w.alloc (Obj.cells #[Value.int IntKind.i64 4, Value.int IntKind.i64 a, Value.int IntKind.i64 b, Value.slice ad 1 cap] 41)).alloc
      (Obj.cells #[Value.bool false, Value.int IntKind.i64 0, Value.slice none 0 0] 27)).alloc (Obj.cells #[Value.bool true, Value.int IntKind.i64 0, Value.slice none 0 0] 27) = W
  have hB : Below w.heap.size w W := by rw [← hW]; repeat (first | with_reducible assumption | with_reducible exact Below.refl _ _ | with_reducible apply Below.drew | (with_reducible refine Below.alloc ?_ (by first | omega | (simp only [World.size_alloc, size_setCell, size_drew, size_drewN]; omega) | (dsimp only; omega) | (simp only [World.size_alloc, size_setCell, size_drew, size_drewN]; dsimp only; omega)) _) | (with_reducible refine Below.setCell ?_ (by first | omega | (simp only [World.size_alloc, size_setCell, size_drew, size_drewN]; omega) | (dsimp only; omega) | (simp only [World.size_alloc, size_setCell, size_drew, size_drewN]; dsimp only; omega)) _) | (with_reducible apply below_drewN))
  have hz : W.heap.size = w.heap.size + 3 := by rw [← hW]; simp
  have b1 : Blk W w.heap.size #[Value.int IntKind.i64 4, Value.int IntKind.i64 a, Value.int IntKind.i64 b, Value.slice ad 1 cap] 41 := by rw [← hW]; exact ((Blk.new _ _ _).alloc _).alloc _
  have b2 : Blk W (w.heap.size + 1) #[Value.bool false, Value.int IntKind.i64 0, Value.slice none 0 0] 27 := by rw [← hW]; exact (show Blk _ _ _ _ by simpa using Blk.new (w.alloc (Obj.cells #[Value.int IntKind.i64 4, Value.int IntKind.i64 a, Value.int IntKind.i64 b, Value.slice ad 1 cap] 41)) #[Value.bool false, Value.int IntKind.i64 0, Value.slice none 0 0] 27).alloc _
  have b3 : Blk W (w.heap.size + 2) #[Value.bool true, Value.int IntKind.i64 0, Value.slice none 0 0] 27 := by rw [← hW]; exact (show Blk _ _ _ _ by simpa using Blk.new ((w.alloc (Obj.cells #[Value.int IntKind.i64 4, Value.int IntKind.i64 a, Value.int IntKind.i64 b, Value.slice ad 1 cap] 41)).alloc (Obj.cells #[Value.bool false, Value.int IntKind.i64 0, Value.slice none 0 0] 27)) #[Value.bool true, Value.int IntKind.i64 0, Value.slice none 0 0] 27)
  clear hW
  have c1 := b1.cell 3
  have c2 := b1.cell 1
  simp only [List.getElem?_toArray, List.getElem?_cons_succ, List.getElem?_cons_zero] at c1 c2
  have hm : Mine w.heap.size p1 p2 g w W := (Mine.of_below hB (Nat.le_refl _))
  have hJ2 := C.mine hJ hm (by omega)
  have hw2 : Below w0.heap.size w0 W := hw0.trans (hm.below.mono hw0.size)
  have hz0 := hw0.size
  have b3' : Blk W (w.heap.size + 1 + 1) #[Value.bool true, Value.int IntKind.i64 0, Value.slice none 0 0] 27 := b3
  go_wp2_with fail
  refine (HH.out W (by omega) (by omega) (by omega) hJ2).mono ?_
  rintro e wc he
  cases R0 with
  | error x =>
    obtain ⟨rfl, g', ho⟩ := he
    have fin : ([] : List Deferred) = [] ∧ Md w.heap.size p1 p2 J (.error x) g w (.panicked [{ v := .iface 63 (.int .i64 x), recovered := false }]) wc := ⟨rfl, rfl, g', ((Own.refl _ _ _ _).mine hm (Nat.le_refl _)).trans ho⟩
    exact fin
  | ok r =>
  obtain ⟨c, qc⟩ := r
  obtain ⟨rfl, gc, hJc, hoc⟩ := he
  have hc := HBD.out c qc (by omega) rfl
  obtain ⟨m, rfl⟩ := Int.eq_ofNat_of_zero_le hc.1
  have hmb : m ≤ 5 := by omega
  have hbb := HBB.out _ qc (by omega) rfl
  have hmc : m * GT.cost x ≤ 5 * GT.cost x := Nat.mul_le_mul_right _ hmb
  have hzc := hoc.size
  have hgc := hoc.new
  have hoC := ((Own.refl _ _ _ _).mine hm (Nat.le_refl _)).trans hoc
  have b1 : Blk wc w.heap.size #[Value.int IntKind.i64 4, Value.int IntKind.i64 a, Value.int IntKind.i64 b, Value.slice ad 1 cap] 41 := (hoc.blk _ (by omega) (by omega) (by omega) (by omega)).trans b1
  have b2 : Blk wc (w.heap.size + 1) #[Value.bool false, Value.int IntKind.i64 0, Value.slice none 0 0] 27 := (hoc.blk _ (by omega) (by omega) (by omega) (by omega)).trans b2
  have b3 : Blk wc (w.heap.size + 2) #[Value.bool true, Value.int IntKind.i64 0, Value.slice none 0 0] 27 := (hoc.blk _ (by omega) (by omega) (by omega) (by omega)).trans b3
  have htn : Int.toNat (m : Int) = m := Int.toNat_natCast m
  simp only [htn]
  obtain ⟨R, HR0⟩ : ∃ R, Hid (app [] (GT.times (fun q => GT.play st x q) (m - 0) qc) = R) := ⟨_, rfl⟩
  clear c1 c2 b3' HH HBD htn hc
  go_wp2_with fail
  go_loopw [53] (fun i wr => ∃ (j : Nat) (qr : σ) (gr : Nat) (S : Nat → Prop) (iv : Value) (cs : List Value) (ts : List VT), j ≤ m ∧ ts.length = j ∧ i = .int .i64 j ∧ J qr gr wr ∧ Own p1 p2 g gr w wr ∧ w.heap.size + 3 ≤ wr.heap.size ∧
    Blk wr w.heap.size #[Value.int IntKind.i64 4, Value.int IntKind.i64 a, Value.int IntKind.i64 b, Value.slice ad 1 cap] 41 ∧ gr ≠ w.heap.size ∧ Blk wr (w.heap.size + 1) #[Value.bool false, Value.int IntKind.i64 0, Value.slice none 0 0] 27 ∧ Blk wr (w.heap.size + 2) #[Value.bool true, Value.int IntKind.i64 0, iv] 27 ∧ gr ≠ w.heap.size + 1 ∧ gr ≠ w.heap.size + 2 ∧
    Items wr (w.heap.size + 3) S iv cs ts ∧ (∀ b, S b → w.heap.size + 3 ≤ b ∧ b < wr.heap.size ∧ b ≠ gr) ∧ (iv.ownBlock ≠ some gr) ∧ (m - j) * GT.cost x ≤ bud qr ∧
    Hid (app ts (GT.times (fun q => GT.play st x q) (m - j) qr) = R)) (fun i _ => m - (intOf i).toNat)
  case atStart =>
    exact ⟨0, qc, gc, fun _ => False, .slice none 0 0, [], [], by omega, rfl, rfl, hJc, hoC, by omega, b1, by omega, b2, b3, by omega, by omega, Items.nil _ _, fun b h => h.elim, by simp [Value.ownBlock], by simp only [Nat.sub_zero]; omega, HR0⟩
  case round =>
    obtain ⟨j, qr, gr, S, iv, cs, ts, hj, htl, rfl, hJr, hor, hzr, bb1, hg0, bb2, bb3, hg1, hg2, hit, hS, hivg, hcb, HE⟩ := hrel
    have hlr := C.lt _ _ _ hJr
    have hgn := hor.new
    by_cases hlt2 : j < m
    · have p0 : (0 : Int) ≤ (j : Int) := by omega
      have p1' : (j : Int) < (m : Int) := by omega
      obtain ⟨bl, off, rfl, hbl, hc2⟩ := hs.at' (by simp)
      obtain ⟨k2, a2, b2', t2, ad2, cap2, e0, e1, e2, e3, hgk⟩ := hc2 0 (by simp)
      simp only [Nat.zero_mul, Nat.add_zero] at e0 e1 e2 e3
      have hF : ∀ W', Below w0.heap.size w0 W' → W'.cell? ⟨bl, off, none⟩ = some (.int .i64 k2) ∧ W'.cell? ⟨bl, off + 1, none⟩ = some (.int .i64 a2) ∧ W'.cell? ⟨bl, off + 2, none⟩ = some (.int .i64 b2') ∧ W'.cell? ⟨bl, off + 3, none⟩ = some (.slice ad2 t2 cap2) := fun W' h =>
        ⟨(h.cell (p := ⟨bl, _, none⟩) hbl).trans e0, (h.cell (p := ⟨bl, _, none⟩) hbl).trans e1, (h.cell (p := ⟨bl, _, none⟩) hbl).trans e2, (h.cell (p := ⟨bl, _, none⟩) hbl).trans e3⟩
      have HF := Lib.hid hF
      clear hF e0 e1 e2 e3 hc2
      rw [show m - j = (m - (j + 1)) + 1 by omega, Nat.add_mul, Nat.one_mul] at hcb
      have hpb2 := Lib.hid (hpb qr)
      have HI := Lib.hid (fun W (h : J qr gr W) (h2 : Below w0.heap.size w0 W) => IHH.out qr gr W _ (by omega) h h2 hgk)
      clear hgk
      go_wp2_with fail
      have hm1 : Mine (w.heap.size + 3) p1 p2 gr wr wr.drew := (Mine.refl _ _ _ _ _).drew
      have x1 : Blk wr.drew w.heap.size #[.int .i64 4, .int .i64 a, .int .i64 b, .slice (some ⟨bl, off, none⟩) 1 cap] 41 := bb1
      have hzx : wr.drew.heap.size = wr.heap.size := rfl
      have y2 : Blk wr.drew (w.heap.size + 1) #[Value.bool false, Value.int IntKind.i64 0, Value.slice none 0 0] 27 := bb2
      have y3 : Blk wr.drew (w.heap.size + 1 + 1) #[Value.bool true, Value.int IntKind.i64 0, iv] 27 := bb3
      have hit1 : Items wr.drew (w.heap.size + 3) S iv cs ts := hit.keep (by omega) (fun b _ hb => rfl) (fun b _ hb => rfl)
      have hJ3 := C.mine hJr hm1 (by omega)
      have ho1 := hor.mine hm1 (by omega)
      have hw2' : Below w0.heap.size w0 wr.drew := hw0.trans (ho1.below (by omega) (by omega) (by omega) (by omega))
      have s0 := HF.out _ hw2'
      obtain ⟨s0, s1, s2, s3⟩ := s0
      have s4 := y3.cell 2
      have s5 := x1.cell 3
      simp only [List.getElem?_toArray, List.getElem?_cons_succ, List.getElem?_cons_zero] at s4 s5
      refine region_take (S := fun w' => w'.cell? ⟨bl, off, none⟩ = some (.int .i64 k2) ∧ w'.cell? ⟨bl, off + 1, none⟩ = some (.int .i64 a2) ∧ w'.cell? ⟨bl, off + 2, none⟩ = some (.int .i64 b2') ∧ w'.cell? ⟨bl, off + 3, none⟩ = some (.slice ad2 t2 cap2) ∧ w'.cell? ⟨w.heap.size + 1 + 1, 2, none⟩ = some iv ∧ w'.cell? ⟨w.heap.size, 3, none⟩ = some (.slice (some ⟨bl, off, none⟩) 1 cap)) (n := 10) (takes := [0, 1, 2, 3, 4, 5, 6]) (rest := [7, 8, 9, 10, 11]) (hm := by kernel_rfl) (hB := by kernel_rfl) (hQ := fun c a d v w h => by cases d <;> exact h) (hS := ⟨s0, s1, s2, s3, s4, s5⟩) ?_
      iterate 7
        rw [takeT_eq]
        simp only [List.getElem?_toArray, List.getElem?_cons_succ, List.getElem?_cons_zero]
        refine ⟨?_, .inl ⟨by rfl, ?_⟩, ?_⟩
        rotate_left
        · rintro w' ⟨s0, s1, s2, s3, s4, s5⟩
          go_simp
          rfl
        simp only [Act.put, List.setIfInBounds_toArray, List.set_cons_zero, List.set_cons_succ]
      clear s0 s1 s2 s3 s4 s5
      generalize wr.drew = W2 at *
      rw [wpTakeT]
      rw [seqT_eq]
      simp only [List.getElem?_toArray, List.getElem?_cons_succ, List.getElem?_cons_zero]
      go_wp2_with fail
      have HC := HI.out W2 hJ3 hw2'
      clear HI
      have HXE := Lib.hid (fun y => times_err (fun q => GT.play st x q) m j hlt2 qr y ts)
      have HXO := Lib.hid (fun q' v => times_ok (fun q => GT.play st x q) m j hlt2 qr q' v ts)
      generalize hR2 : GT.play st x qr = R2 at *
      refine HC.mono ?_
      rintro e w4 he
      cases R2 with
      | error y =>
        obtain ⟨rfl, g2, ho2⟩ := he
        have fin : ([] : List Deferred) = [] ∧ Md w.heap.size p1 p2 J (asList (app [] (GT.times (fun q => GT.play st x q) (m - 0) qc))) g w (.panicked [{ v := .iface 63 (.int .i64 y), recovered := false }]) w4 := by
          have : R = .error y := HE.out.symm.trans (HXE.out y rfl)
          rw [HR0.out, this]
          exact ⟨rfl, rfl, g2, ho1.trans ho2⟩
        exact fin
      | ok r =>
        obtain ⟨t, q2⟩ := r
        obtain ⟨u, rfl, g2, hJ4, ho2, S2, hS2, hv⟩ := he
        obtain ⟨l5, n5, k5, ad5, cap5, rfl⟩ := hv.shape
        have hEN := Lib.hid (HXO.out q2 t rfl)
        have hpb3 := hpb2.out t q2 rfl
        have hgn2 := ho2.new
        have hl4 := C.lt _ _ _ hJ4
        have hzw4 := ho2.size
        have x1 : Blk w4 w.heap.size #[.int .i64 4, .int .i64 a, .int .i64 b, .slice (some ⟨bl, off, none⟩) 1 cap] 41 := (ho2.blk _ (by omega) (by omega) (by omega) (by omega)).trans x1
        have y2 : Blk w4 (w.heap.size + 1) #[Value.bool false, Value.int IntKind.i64 0, Value.slice none 0 0] 27 := (ho2.blk _ (by omega) (by omega) (by omega) (by omega)).trans y2
        have y3 : Blk w4 (w.heap.size + 1 + 1) #[Value.bool true, Value.int IntKind.i64 0, iv] 27 := (ho2.blk _ (by omega) (by omega) (by omega) (by omega)).trans y3
        have hit4 : Items w4 (w.heap.size + 3) S iv cs ts := hit1.keep hzw4 (fun b hb hbl => ho2.blk _ hbl (by have := hS b hb; omega) (by have := hS b hb; omega) (by have := hS b hb; omega)) (fun b hb hbl => ho2.blk _ hbl (by have := hit1.lt b hb; omega) (by have := hit1.lt b hb; omega) (by intro e; rw [e] at hb; exact hivg hb))
        obtain ⟨s0, s1, s2, s3⟩ := HF.out _ (hw0.trans (Own.below (ho1.trans ho2) (by omega) (by omega) (by omega) (by omega)))
        have s4 := y3.cell 2
        have s5 := x1.cell 3
        simp only [List.getElem?_toArray, List.getElem?_cons_succ, List.getElem?_cons_zero] at s4 s5
        go_wp2_with fail
        refine And.intro (fun _ => ⟨s0, s1, s2, s3, s4, s5⟩) ?_
        rw [seqT_eq]
        simp only [List.getElem?_toArray, List.getElem?_cons_succ, List.getElem?_cons_zero]
        go_wp2_with fail
        have hm5 : Mine (w.heap.size + 3) p1 p2 g2 w4 (w4.alloc (.cells #[.bool l5, .int .i64 n5, .slice ad5 k5 cap5] 27)) := Mine.of_below (by repeat (first | with_reducible assumption | with_reducible exact Below.refl _ _ | with_reducible apply Below.drew | (with_reducible refine Below.alloc ?_ (by first | omega | (simp only [World.size_alloc, size_setCell, size_drew, size_drewN]; omega) | (dsimp only; omega) | (simp only [World.size_alloc, size_setCell, size_drew, size_drewN]; dsimp only; omega)) _) | (with_reducible refine Below.setCell ?_ (by first | omega | (simp only [World.size_alloc, size_setCell, size_drew, size_drewN]; omega) | (dsimp only; omega) | (simp only [World.size_alloc, size_setCell, size_drew, size_drewN]; dsimp only; omega)) _) | (with_reducible apply below_drewN))) (by omega)
        have z1 : Blk (w4.alloc (.cells #[.bool l5, .int .i64 n5, .slice ad5 k5 cap5] 27)) w4.heap.size #[.bool l5, .int .i64 n5, .slice ad5 k5 cap5] 27 := Blk.new _ _ _
        have hit5 : Items (w4.alloc (.cells #[.bool l5, .int .i64 n5, .slice ad5 k5 cap5] 27)) (w.heap.size + 3) S iv cs ts := hit4.keep (by simp) (fun b _ hb => Below.heap_alloc w4 _ b hb) (fun b _ hb => Below.heap_alloc w4 _ b hb)
        have hv5 := hv.ext (w' := w4.alloc (.cells #[.bool l5, .int .i64 n5, .slice ad5 k5 cap5] 27)) (by repeat (first | with_reducible assumption | with_reducible exact Below.refl _ _ | with_reducible apply Below.drew | (with_reducible refine Below.alloc ?_ (by first | omega | (simp only [World.size_alloc, size_setCell, size_drew, size_drewN]; omega) | (dsimp only; omega) | (simp only [World.size_alloc, size_setCell, size_drew, size_drewN]; dsimp only; omega)) _) | (with_reducible refine Below.setCell ?_ (by first | omega | (simp only [World.size_alloc, size_setCell, size_drew, size_drewN]; omega) | (dsimp only; omega) | (simp only [World.size_alloc, size_setCell, size_drew, size_drewN]; dsimp only; omega)) _) | (with_reducible apply below_drewN)))
        have hz5 : (w4.alloc (.cells #[.bool l5, .int .i64 n5, .slice ad5 k5 cap5] 27)).heap.size = w4.heap.size + 1 := by simp
        have x1 := x1.alloc (.cells #[.bool l5, .int .i64 n5, .slice ad5 k5 cap5] 27)
        have y2 := y2.alloc (.cells #[.bool l5, .int .i64 n5, .slice ad5 k5 cap5] 27)
        have y3 := y3.alloc (.cells #[.bool l5, .int .i64 n5, .slice ad5 k5 cap5] 27)
        have hJ5 := C.mine hJ4 hm5 (by omega)
        have ho5 := (ho1.trans ho2).mine hm5 (by omega)
        clear s0 s1 s2 s3 s4 s5
        obtain ⟨s0, s1, s2, s3⟩ := HF.out _ (hw0.trans (Own.below (ho5) (by omega) (by omega) (by omega) (by omega)))
        have s4 := y3.cell 2
        have s5 := x1.cell 3
        simp only [List.getElem?_toArray, List.getElem?_cons_succ, List.getElem?_cons_zero] at s4 s5
        refine And.intro (fun _ => ⟨s0, s1, s2, s3, s4, s5⟩) ?_
        generalize w4.alloc (.cells #[.bool l5, .int .i64 n5, .slice ad5 k5 cap5] 27) = w5 at *
        rw [seqT_eq]
        simp only [List.getElem?_toArray, List.getElem?_cons_succ, List.getElem?_cons_zero]
        obtain ⟨inf, hi0, hi1, hi2, hi3⟩ := info_value
        refine wpList_append_lies w5 rfl _ _ 25 rfl (w.heap.size + 3) 27 inf _ 3 40 Tryd.underlying25 hi0 hi1 hi2 hi3 rfl (by decide) iv ts.length cs rfl hit5.own ⟨w4.heap.size, 0, none⟩ 1 1 [.bool l5, .int .i64 n5, .slice ad5 k5 cap5] rfl rfl (World.news_of_block z1) (by simp [Value.oneCell']) (by decide) (by unfold maxLen; omega) (by omega) (by omega) w5.heap.size rfl ?_
        intro gi capi w6 how hgr hat hgl
        have hown2 : ∀ b, iv.ownBlock = some b → w.heap.size + 3 ≤ b ∧ b < wr.heap.size ∧ b ≠ g2 := by
          intro b hb
          have h1 := hit.lt b hb
          refine ⟨h1.1, h1.2, ?_⟩
          rcases hgn2 with e | e
          · rw [e]; intro e2; rw [e2] at hb; exact hivg hb
          · omega
        have hm6 : Mine (w.heap.size + 3) p1 p2 g2 w5 w6 := (Mine.refl _ _ _ _ _).grown hgr (by omega) (fun b hb => by have := hown2 b hb; omega) (Nat.le_refl _)
        have hitN : Items w6 (w.heap.size + 3) (fun b => S b ∨ S2 b) (.slice (some ⟨gi, 0, none⟩) (ts.length + 1) capi) (cs ++ [.bool l5, .int .i64 n5, .slice ad5 k5 cap5]) (ts ++ [t]) :=
          hit5.push how hgr (by rcases hat with e | e; · exact .inl (by rw [e]; rfl)
                                · exact .inr (by rw [← e]; rfl)) (fun b hb => by have := hS b hb; omega) (fun b hb => by
              have := hS2 b hb
              refine ⟨by omega, fun e => ?_⟩
              have := hown2 b e
              omega) hv5
        have hJ6 := C.mine hJ5 hm6 (by omega)
        have ho6 := ho5.mine hm6 (by omega)
        have hz6 := hgr.size
        have x1 : Blk w6 w.heap.size #[.int .i64 4, .int .i64 a, .int .i64 b, .slice (some ⟨bl, off, none⟩) 1 cap] 41 := (hgr.block _ (by omega) (fun e => by have := hown2 _ e.symm; omega)).trans x1
        have y2 : Blk w6 (w.heap.size + 1) #[Value.bool false, Value.int IntKind.i64 0, Value.slice none 0 0] 27 := (hgr.block _ (by omega) (fun e => by have := hown2 _ e.symm; omega)).trans y2
        have y3 : Blk w6 (w.heap.size + 1 + 1) #[Value.bool true, Value.int IntKind.i64 0, iv] 27 := (hgr.block _ (by omega) (fun e => by have := hown2 _ e.symm; omega)).trans y3
        have hgi : gi ≠ g2 ∧ w.heap.size + 3 ≤ gi := by
          rcases hat with e | e
          · have := hown2 _ e; omega
          · have := hm5.below.size; omega
        clear s0 s1 s2 s3 s4 s5
        obtain ⟨s0, s1, s2, s3⟩ := HF.out _ (hw0.trans (Own.below (ho6) (by omega) (by omega) (by omega) (by omega)))
        have s4 := y3.cell 2
        have s5 := x1.cell 3
        have u4 := y3.unfrozen 2
        simp only [List.getElem?_toArray, List.getElem?_cons_succ, List.getElem?_cons_zero] at s4 s5
        refine And.intro (fun _ => ⟨s0, s1, s2, s3, s4, s5⟩) ?_
        simp only [Act.put, List.setIfInBounds_toArray, List.set_cons_zero, List.set_cons_succ]
        rw [seqT_eq]
        simp only [List.getElem?_toArray, List.getElem?_cons_succ, List.getElem?_cons_zero]
        go_wp2_with fail
        refine And.intro (fun h => absurd h (Nat.lt_irrefl _)) ?_
        rw [seqT_eq]
        simp only [List.getElem?_toArray, List.getElem?_cons_succ, List.getElem?_cons_zero]
        go_wp2_with fail
        refine And.intro (fun h => absurd h (by omega)) ?_
        rw [wpSeqT]
        go_wp2_with fail
        have hm7 : Mine w.heap.size p1 p2 g2 w6 (w6.setCell ⟨w.heap.size + 1 + 1, 2, none⟩ (.slice (some ⟨gi, 0, none⟩) (j + 1) capi)) := (Mine.refl _ _ _ _ _).set (by omega) (by omega) (by omega) (by omega) _ _
        have hJ7 := C.mine hJ6 hm7 (by omega)
        have ho7 := ho6.mine hm7 (Nat.le_refl _)
        have y3' := y3.set 2 (.slice (some ⟨gi, 0, none⟩) (j + 1) capi)
        simp only [List.setIfInBounds_toArray, List.set_cons_zero, List.set_cons_succ] at y3'
        have x1' := x1.oth (w.heap.size + 1 + 1) 2 (by omega) (.slice (some ⟨gi, 0, none⟩) (j + 1) capi)
        have y2' := y2.oth (w.heap.size + 1 + 1) 2 (by omega) (.slice (some ⟨gi, 0, none⟩) (j + 1) capi)
        have hk7 : ∀ b, w.heap.size + 3 ≤ b → (w6.setCell ⟨w.heap.size + 1 + 1, 2, none⟩ (.slice (some ⟨gi, 0, none⟩) (j + 1) capi)).heap[b]? = w6.heap[b]? := fun b hb => Below.heap_setCell _ _ _ _ (by dsimp only; omega)
        rw [htl] at hitN
        have hitN7 : Items (w6.setCell ⟨w.heap.size + 1 + 1, 2, none⟩ (.slice (some ⟨gi, 0, none⟩) (j + 1) capi)) (w.heap.size + 3) (fun b => S b ∨ S2 b) (.slice (some ⟨gi, 0, none⟩) (j + 1) capi) (cs ++ [.bool l5, .int .i64 n5, .slice ad5 k5 cap5]) (ts ++ [t]) :=
          hitN.keep (by rw [size_setCell]; exact Nat.le_refl _) (fun b hb _ => hk7 b (by rcases hb with hb | hb; · have := hS b hb; omega
                                                                                         · have := hS2 b hb; omega)) (fun b hb _ => hk7 b (by have := hitN.lt b hb; omega))
        refine ⟨⟨j + 1, q2, g2, fun b => S b ∨ S2 b, .slice (some ⟨gi, 0, none⟩) (j + 1) capi, cs ++ [.bool l5, .int .i64 n5, .slice ad5 k5 cap5], ts ++ [t], by omega, by simp; omega, by go_num, hJ7, ho7, by rw [size_setCell]; omega, x1', by omega, y2', y3', by omega, by omega, hitN7, fun b hb => ?_, ?_, by omega, ?_⟩, by simp [intOf]; omega⟩
        · rw [size_setCell]
          rcases hb with hb | hb
          · have := hS b hb
            omega
          · have := hS2 b hb
            omega
        · simp [Value.ownBlock]; exact hgi.1
        · exact hEN.out.symm.trans HE.out
    · have hjl : j = m := by omega
      have HF := HE.out
      rw [show m - j = 0 by omega] at HF
      have HX : Hid (R = .ok (ts, qr)) := by show _ = _; rw [← HF]; simp [GT.times, app]
      clear HF HE
      have p1' : ¬ ((j : Int) < (m : Int)) := by omega
      obtain ⟨adi, capi, rfl⟩ := hit.shape
      have bb3' : Blk wr (w.heap.size + 1 + 1) #[Value.bool true, Value.int IntKind.i64 0, .slice adi ts.length capi] 27 := bb3
      have s0 := bb3'.cell 0
      have s1 := bb3'.cell 1
      have s2 := bb3'.cell 2
      have d0 := bb2.cell 0
      have d1 := bb2.cell 1
      have d2 := bb2.cell 2
      have u0 := bb2.unfrozen 0
      have u1 := bb2.unfrozen 1
      have u2 := bb2.unfrozen 2
      simp only [List.getElem?_toArray, List.getElem?_cons_succ, List.getElem?_cons_zero] at s0 s1 s2 d0 d1 d2
      go_wp2_with fail
      obtain ⟨b5, hfin⟩ := made_end C (by omega) (by omega) (by omega) (by omega) (by omega) (by omega) hJr hor bb2 (fun b h => by
        rcases h with h | h
        · have := hS b h; omega
        · have := hit.lt b h
          refine ⟨by omega, by omega, ?_, by omega⟩
          intro e
          rw [e] at h
          exact hivg h) (c0 := .bool true) (c1 := .int .i64 0) (c2 := .slice adi ts.length capi) hit.val
      have hts : ts.length = m := by omega
      rw [hts] at b5 hfin
      clear d0 d1 d2 u0 u1 u2 s0 s1 s2
      generalize ((wr.setCell ⟨w.heap.size + 1, 0, none⟩ (.bool true)).setCell ⟨w.heap.size + 1, 1, none⟩ (.int .i64 0)).setCell ⟨w.heap.size + 1, 2, none⟩ (.slice adi m capi) = W4 at *
      have d0 := b5.cell 0
      have d1 := b5.cell 1
      have d2 := b5.cell 2
      simp only [List.getElem?_toArray, List.getElem?_cons_succ, List.getElem?_cons_zero] at d0 d1 d2
      refine bodyPost_ret (v := .agg #[.bool true, .int .i64 0, .slice adi m capi]) (by simp [results, Tryd.results46, go_sem, d0, d1, d2]) rfl ?_
      have HRR : app [] (GT.times (fun q => GT.play st x q) m qc) = R := HR0.out
      rw [HRR, HX.out]
      exact ⟨_, rfl, hfin⟩
end
theorem GT.parts_pos (g : GT) (d : Nat) : 1 ≤ (GT.parts g d).1 := by
  have hL : ∀ (s : List GT) (d : Nat) (r : Nat × Bool), r.1 ≤ (GT.partsL s d r).1 := by
    intro s
    induction s with
    | nil => intro d r; exact Nat.le_refl _
    | cons x s ih =>
      intro d r
      simp only [GT.partsL]
      split
      · have := ih d (r.1 + (GT.parts x (d + 1)).1, (GT.parts x (d + 1)).2 && decide (r.1 + (GT.parts x (d + 1)).1 ≤ 30))
        simp only at this ⊢
        omega
      · exact Nat.le_refl _
  cases g with
  | mk k a b s => exact hL s d (1, decide (d < 6))
theorem GT.partsL_ok (s : List GT) (d : Nat) : ∀ r : Nat × Bool, (GT.partsL s d r).2 = true → r.2 = true ∧ (∀ x ∈ s, (GT.parts x (d + 1)).2 = true) ∧ r.1 + s.length ≤ (GT.partsL s d r).1 := by
  induction s with
  | nil => intro r h; exact ⟨h, by simp, by simp [GT.partsL]⟩
  | cons x s ih =>
    intro r h
    simp only [GT.partsL] at h ⊢
    split at h
    · rename_i hr
      rw [if_pos hr]
      obtain ⟨h1, h2, h3⟩ := ih _ h
      simp only [Bool.and_eq_true, decide_eq_true_eq] at h1
      refine ⟨hr, ?_, ?_⟩
      · intro y hy
        rcases List.mem_cons.1 hy with rfl | hy
        · exact h1.1
        · exact h2 y hy
      · have := GT.parts_pos x (d + 1)
        simp only [List.length_cons]
        simp only at h3
        omega
    · rename_i hr; exact absurd h hr
theorem GT.parts_kids {k a b : Int} {s : List GT} {d : Nat} (h : (GT.parts (.mk k a b s) d).2 = true) : s.length ≤ 29 ∧ d < 6 ∧ ∀ x ∈ s, (GT.parts x (d + 1)).2 = true := by
  simp only [GT.parts, Bool.and_eq_true, decide_eq_true_eq] at h
  obtain ⟨h1, h2, h3⟩ := GT.partsL_ok s d _ h.1
  simp only [decide_eq_true_eq] at h1
  have := h.2
  simp only at h3
  exact ⟨by omega, h1, h2⟩
theorem GT.check_parts {g : GT} (h : GT.check g = 0) : (GT.parts g 0).2 = true := by
  unfold GT.check at h
  split at h
  · assumption
  · omega
section
variable {σ : Type} {B k p1 p2 : Nat} {st : Int → σ → Except Int (Int × σ)} {J : σ → Nat → World → Prop} {bud : σ → Nat}
theorem made_any (C : Cho B k p1 p2 st J bud) (w0 : World) (h0B : w0.heap.size ≤ B) (x : GT) : ∀ (d : Nat) (q : σ) (g : Nat) (w : World) (v : Value), GT.eachErr x = 0 → (GT.parts x d).2 = true → GT.cost x ≤ bud q → J q g w → Below w0.heap.size w0 w → GenAt w0 v x →
    Calls Tryd.prog 46 #[.func (.func k) #[] #[.pointer (some ⟨p1, 0, none⟩), .pointer (some ⟨p2, 0, none⟩)], v] w (Md w.heap.size p1 p2 J (GT.play st x q) g w) := by
  induction x using GT.ind with
  | h kk a b s ih =>
    intro d q g w v he hp hbq hJ hw hg
    obtain ⟨k', a', b', s', ad, cap, hmk, rfl, hk, ha, hb, hl, hm, hs⟩ := hg.form
    obtain ⟨rfl, rfl, rfl, rfl⟩ := GT.mk.inj hmk
    have hks := GT.ok_kids he
    have hpb : ∀ x ∈ s, ∀ q t q', GT.play st x q = .ok (t, q') → bud q ≤ bud q' + GT.cost x := fun x hx => GT.play_bud st bud C.bd C.bdd x (hks x hx)
    obtain ⟨hlen, hd, hpk⟩ := GT.parts_kids hp
    rcases GT.one_cases (GT.ok_one he) with ⟨rfl, h1, h2, h3⟩ | ⟨rfl, h0, h0', h1, h2, h3⟩ | rfl | ⟨rfl, h1, h2, h3⟩ | ⟨rfl, h1⟩
    · exact made_1 C q g w hJ a b ad cap s.length h2 h3 s
    · exact made_2 C q (by simpa [GT.cost] using hbq) g w hJ a b ad cap s.length h0' h1 h2 h3 s
    · exact made_3 C w0 h0B q g w hJ hw a b ad cap s hs (by omega) (by simpa [GT.cost] using hbq) hpb (fun y hy q g w v h0 h1 h2 h3 => ih y hy (d + 1) q g w v (hks y hy) (hpk y hy) h0 h1 h2 h3)
    · match s, h1, hs, ih, hks, hpk, hlen, he, hp, hg, hl, hmk, hpb, hbq with
      | [y], _, hs, ih, hks, hpk, _, _, _, _, _, _, hpb, hbq =>
        exact made_4 C w0 h0B q g w hJ hw a b ad cap y hs h2 h3 (by simpa [GT.cost, GT.costL] using hbq) (hpb y (by simp)) (fun q g w v h0 h1 h2 h3 => ih y (by simp) (d + 1) q g w v (hks y (by simp)) (hpk y (by simp)) h0 h1 h2 h3)
    · exact made_5 C w0 h0B q g w hJ hw a b ad cap s hs h1 (by omega) (by simpa [GT.cost] using hbq) (fun y hy q g w v h0 h1 h2 h3 => ih y hy (d + 1) q g w v (hks y hy) (hpk y hy) h0 h1 h2 h3)
end
end Go.Proofs.YtcecpggkeaohnaaDoor
