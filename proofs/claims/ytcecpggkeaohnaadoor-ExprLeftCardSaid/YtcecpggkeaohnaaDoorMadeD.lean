/- The walk through what a generator makes: a list, of each one. -/
import Derived.Test.YtcecpggkeaohnaaDoorMadeC
import Derived.Test.YtcecpggkeaohnaaDoorItems
namespace Go.Proofs.YtcecpggkeaohnaaDoor
set_option maxRecDepth 100000
open Go.RowKit
set_option linter.unusedSimpArgs false
set_option linter.unusedVariables false
section
variable {σ : Type} {B k p1 p2 : Nat} {st : Int → σ → Except Int (Int × σ)} {J : σ → Nat → World → Prop} {bud : σ → Nat}
theorem Items.shape {w : World} {lo : Nat} {S : Nat → Prop} {iv : Value} {cs : List Value} {ts : List VT} (h : Items w lo S iv cs ts) : ∃ ad cap, iv = .slice ad ts.length cap := by
  rcases h.own.2 with ⟨rfl, h0⟩ | ⟨g, cap, cur, rfl, _⟩
  · exact ⟨none, 0, by rw [h0]⟩
  · exact ⟨_, _, rfl⟩
/-- These ahead of what is made. -/
def app (ts : List VT) (r : Except Int (List VT × σ)) : Except Int (List VT × σ) := match r with
  | .error e => .error e
  | .ok (l, q) => .ok (ts ++ l, q)
def asList (r : Except Int (List VT × σ)) : Except Int (VT × σ) := match r with
  | .error e => .error e
  | .ok (l, q) => .ok (.mk true 0 l, q)
theorem app_nil (r : Except Int (List VT × σ)) : app [] r = r := by cases r <;> rfl
theorem playL_ok (st : Int → σ → Except Int (Int × σ)) (s : List GT) (j : Nat) (h : j < s.length) (q q' : σ) (v : VT) (ts : List VT) (e : GT.play st s[j] q = .ok (v, q')) :
    app ts (GT.playL st (s.drop j) q) = app (ts ++ [v]) (GT.playL st (s.drop (j + 1)) q') := by
  rw [List.drop_eq_getElem_cons h]
  simp only [GT.playL, e]
  cases GT.playL st (s.drop (j + 1)) q' <;> simp [app]
theorem playL_err (st : Int → σ → Except Int (Int × σ)) (s : List GT) (j : Nat) (h : j < s.length) (q : σ) (x : Int) (ts : List VT) (e : GT.play st s[j] q = .error x) :
    app ts (GT.playL st (s.drop j) q) = .error x := by
  rw [List.drop_eq_getElem_cons h]
  simp only [GT.playL, e]
  rfl
set_option maxHeartbeats 8000000 in
theorem made_3 (C : Cho B k p1 p2 st J bud) (w0 : World) (h0B : w0.heap.size ≤ B) (q : σ) (g : Nat) (w : World) (hJ : J q g w) (hw0 : Below w0.heap.size w0 w) (a b : Int) (ad : Option Addr) (cap : Nat) (s : List GT) (hs : GensAt w0 ad s) (hs1 : s.length ≤ 1000) (hbq : GT.costL s ≤ bud q) (hpb : ∀ x ∈ s, ∀ q t q', GT.play st x q = .ok (t, q') → bud q ≤ bud q' + GT.cost x)
   (IH : ∀ x ∈ s, ∀ q g w v, GT.cost x ≤ bud q → J q g w → Below w0.heap.size w0 w → GenAt w0 v x → Calls Tryd.prog 46 #[.func (.func k) #[] #[.pointer (some ⟨p1, 0, none⟩), .pointer (some ⟨p2, 0, none⟩)], v] w (Md w.heap.size p1 p2 J (GT.play st x q) g w)) :
   Calls Tryd.prog 46 #[.func (.func k) #[] #[.pointer (some ⟨p1, 0, none⟩), .pointer (some ⟨p2, 0, none⟩)], .agg #[.int .i64 3, .int .i64 a, .int .i64 b, .slice ad s.length cap]] w (Md w.heap.size p1 p2 J (GT.play st (.mk 3 a b s) q) g w) := by
  have hlt := C.lt q g w hJ
  have HP : Hid (GT.play st (.mk 3 a b s) q = asList (app [] (GT.playL st (s.drop 0) q))) := by show _ = _; rw [app_nil]; simp [GT.play]; rfl
  rw [HP.out]
  have IHH := Lib.hid IH
  clear IH HP
  have hSR : Hid (app [] (GT.playL st (s.drop 0) q) = app [] (GT.playL st (s.drop 0) q)) := rfl
  generalize hR : app [] (GT.playL st (s.drop 0) q) = R
  have HR0 := Lib.hid hR
  clear hR hSR
  go_enter Tryd.func46, Tryd.ntmps46
  go_upto_region 8 with (fail)
  generalize hW : ((w.alloc (Obj.cells #[Value.int IntKind.i64 3, Value.int IntKind.i64 a, Value.int IntKind.i64 b, Value.slice ad s.length cap] 41)).alloc
      (Obj.cells #[Value.bool false, Value.int IntKind.i64 0, Value.slice none 0 0] 27)).alloc (Obj.cells #[Value.bool true, Value.int IntKind.i64 0, Value.slice none 0 0] 27) = W
  have hB : Below w.heap.size w W := by rw [← hW]; repeat (first | with_reducible assumption | with_reducible exact Below.refl _ _ | with_reducible apply Below.drew | (with_reducible refine Below.alloc ?_ (by first | omega | (simp only [World.size_alloc, size_setCell, size_drew, size_drewN]; omega) | (dsimp only; omega) | (simp only [World.size_alloc, size_setCell, size_drew, size_drewN]; dsimp only; omega)) _) | (with_reducible refine Below.setCell ?_ (by first | omega | (simp only [World.size_alloc, size_setCell, size_drew, size_drewN]; omega) | (dsimp only; omega) | (simp only [World.size_alloc, size_setCell, size_drew, size_drewN]; dsimp only; omega)) _) | (with_reducible apply below_drewN))
  have hz : W.heap.size = w.heap.size + 3 := by rw [← hW]; simp
  have b1 : Blk W w.heap.size #[Value.int IntKind.i64 3, Value.int IntKind.i64 a, Value.int IntKind.i64 b, Value.slice ad s.length cap] 41 := by rw [← hW]; exact ((Blk.new _ _ _).alloc _).alloc _
  have b2 : Blk W (w.heap.size + 1) #[Value.bool false, Value.int IntKind.i64 0, Value.slice none 0 0] 27 := by rw [← hW]; exact (show Blk _ _ _ _ by simpa using Blk.new (w.alloc (Obj.cells #[Value.int IntKind.i64 3, Value.int IntKind.i64 a, Value.int IntKind.i64 b, Value.slice ad s.length cap] 41)) #[Value.bool false, Value.int IntKind.i64 0, Value.slice none 0 0] 27).alloc _
  have b3 : Blk W (w.heap.size + 2) #[Value.bool true, Value.int IntKind.i64 0, Value.slice none 0 0] 27 := by rw [← hW]; exact (show Blk _ _ _ _ by simpa using Blk.new ((w.alloc (Obj.cells #[Value.int IntKind.i64 3, Value.int IntKind.i64 a, Value.int IntKind.i64 b, Value.slice ad s.length cap] 41)).alloc (Obj.cells #[Value.bool false, Value.int IntKind.i64 0, Value.slice none 0 0] 27)) #[Value.bool true, Value.int IntKind.i64 0, Value.slice none 0 0] 27)
  clear hW
  have c1 := b1.cell 3
  simp only [List.getElem?_toArray, List.getElem?_cons_succ, List.getElem?_cons_zero] at c1
  have hm : Mine w.heap.size p1 p2 g w W := (Mine.of_below hB (Nat.le_refl _))
  have hJ2 := C.mine hJ hm (by omega)
  have hw2 : Below w0.heap.size w0 W := hw0.trans (hm.below.mono hw0.size)
  have hz0 := hw0.size
  go_wp2_with fail
  go_loopw [34] (fun i wr => ∃ (j : Nat) (qr : σ) (gr : Nat) (S : Nat → Prop) (iv : Value) (cs : List Value) (ts : List VT), j ≤ s.length ∧ ts.length = j ∧ i = .int .i64 j ∧ J qr gr wr ∧ Own p1 p2 g gr w wr ∧ w.heap.size + 3 ≤ wr.heap.size ∧
    Blk wr (w.heap.size + 1) #[Value.bool false, Value.int IntKind.i64 0, Value.slice none 0 0] 27 ∧ Blk wr (w.heap.size + 2) #[Value.bool true, Value.int IntKind.i64 0, iv] 27 ∧ gr ≠ w.heap.size + 1 ∧ gr ≠ w.heap.size + 2 ∧
    Items wr (w.heap.size + 3) S iv cs ts ∧ (∀ b, S b → w.heap.size + 3 ≤ b ∧ b < wr.heap.size ∧ b ≠ gr) ∧ (iv.ownBlock ≠ some gr) ∧ GT.costL (s.drop j) ≤ bud qr ∧
    Hid (app ts (GT.playL st (s.drop j) qr) = R)) (fun i _ => s.length - (intOf i).toNat)
  case atStart =>
    exact ⟨0, q, g, fun _ => False, .slice none 0 0, [], [], by omega, rfl, rfl, hJ2, (Own.refl _ _ _ _).mine hm (Nat.le_refl _), by omega, b2, b3, by omega, by omega, Items.nil _ _, fun b h => h.elim, by simp [Value.ownBlock], hbq, HR0⟩
  case round =>
    obtain ⟨j, qr, gr, S, iv, cs, ts, hj, htl, rfl, hJr, hor, hzr, bb2, bb3, hg1, hg2, hit, hS, hivg, hcb, HE⟩ := hrel
    have hlr := C.lt _ _ _ hJr
    have hgn := hor.new
    by_cases hlt2 : j < s.length
    · have p0 : (0 : Int) ≤ (j : Int) := by omega
      have p1' : (j : Int) < (s.length : Int) := by omega
      obtain ⟨bl, off, rfl, hbl, hc2⟩ := hs.at' (by omega)
      obtain ⟨k2, a2, b2', t2, ad2, cap2, e0, e1, e2, e3, hgk⟩ := hc2 j hlt2
      have hwr : Below w0.heap.size w0 wr := hw0.trans (hor.below (by omega) (by omega) (by omega) (by omega))
      have f0 := (hwr.cell (p := ⟨bl, _, none⟩) hbl).trans e0
      have f1 := (hwr.cell (p := ⟨bl, _, none⟩) hbl).trans e1
      have f2 := (hwr.cell (p := ⟨bl, _, none⟩) hbl).trans e2
      have f3 := (hwr.cell (p := ⟨bl, _, none⟩) hbl).trans e3
      clear e0 e1 e2 e3 hc2
      rw [GT.costL_drop s j hlt2] at hcb
      have hpb2 := Lib.hid (hpb s[j] (List.getElem_mem hlt2) qr)
      have HI := Lib.hid (fun W (h : J qr gr W) (h2 : Below w0.heap.size w0 W) => IHH.out s[j] (List.getElem_mem hlt2) qr gr W _ (by omega) h h2 hgk)
      clear hgk
      go_wp2_with fail
      have hm1 : Mine (w.heap.size + 3) p1 p2 gr wr (wr.alloc (.cells #[.int .i64 k2, .int .i64 a2, .int .i64 b2', .slice ad2 t2 cap2] 41)).drew := (Mine.of_below (by repeat (first | with_reducible assumption | with_reducible exact Below.refl _ _ | with_reducible apply Below.drew | (with_reducible refine Below.alloc ?_ (by first | omega | (simp only [World.size_alloc, size_setCell, size_drew, size_drewN]; omega) | (dsimp only; omega) | (simp only [World.size_alloc, size_setCell, size_drew, size_drewN]; dsimp only; omega)) _) | (with_reducible refine Below.setCell ?_ (by first | omega | (simp only [World.size_alloc, size_setCell, size_drew, size_drewN]; omega) | (dsimp only; omega) | (simp only [World.size_alloc, size_setCell, size_drew, size_drewN]; dsimp only; omega)) _) | (with_reducible apply below_drewN))) hzr).drew
      have x1 : Blk (wr.alloc (.cells #[.int .i64 k2, .int .i64 a2, .int .i64 b2', .slice ad2 t2 cap2] 41)).drew wr.heap.size #[.int .i64 k2, .int .i64 a2, .int .i64 b2', .slice ad2 t2 cap2] 41 := Blk.new _ _ _
      have hzx : (wr.alloc (.cells #[.int .i64 k2, .int .i64 a2, .int .i64 b2', .slice ad2 t2 cap2] 41)).drew.heap.size = wr.heap.size + 1 := by simp [size_drew]
      have y2 : Blk (wr.alloc (.cells #[.int .i64 k2, .int .i64 a2, .int .i64 b2', .slice ad2 t2 cap2] 41)).drew (w.heap.size + 1) #[Value.bool false, Value.int IntKind.i64 0, Value.slice none 0 0] 27 := bb2.alloc _
      have y3 : Blk (wr.alloc (.cells #[.int .i64 k2, .int .i64 a2, .int .i64 b2', .slice ad2 t2 cap2] 41)).drew (w.heap.size + 1 + 1) #[Value.bool true, Value.int IntKind.i64 0, iv] 27 := bb3.alloc _
      have hit1 : Items (wr.alloc (.cells #[.int .i64 k2, .int .i64 a2, .int .i64 b2', .slice ad2 t2 cap2] 41)).drew (w.heap.size + 3) S iv cs ts := hit.keep (by omega) (fun b _ hb => Below.heap_alloc wr _ b hb) (fun b _ hb => Below.heap_alloc wr _ b hb)
      have s0 := x1.cell 0
      have s1 := x1.cell 1
      have s2 := x1.cell 2
      have s3 := x1.cell 3
      have s4 := y3.cell 2
      simp only [List.getElem?_toArray, List.getElem?_cons_succ, List.getElem?_cons_zero] at s0 s1 s2 s3 s4
      refine region_take (S := fun w' => w'.cell? ⟨wr.heap.size, 0, none⟩ = some (.int .i64 k2) ∧ w'.cell? ⟨wr.heap.size, 1, none⟩ = some (.int .i64 a2) ∧ w'.cell? ⟨wr.heap.size, 2, none⟩ = some (.int .i64 b2') ∧ w'.cell? ⟨wr.heap.size, 3, none⟩ = some (.slice ad2 t2 cap2) ∧ w'.cell? ⟨w.heap.size + 1 + 1, 2, none⟩ = some iv) (n := 7) (takes := [0, 1, 2, 3]) (rest := [4, 5, 6, 7, 8]) (hm := by kernel_rfl) (hB := by kernel_rfl) (hQ := fun c a d v w h => by cases d <;> exact h) (hS := ⟨s0, s1, s2, s3, s4⟩) ?_
      iterate 4
        rw [takeT_eq]
        simp only [List.getElem?_toArray, List.getElem?_cons_succ, List.getElem?_cons_zero]
        refine ⟨?_, .inl ⟨by rfl, ?_⟩, ?_⟩
        rotate_left
        · rintro w' ⟨s0, s1, s2, s3, s4⟩
          go_simp
          rfl
        simp only [Act.put, List.setIfInBounds_toArray, List.set_cons_zero, List.set_cons_succ]
      have hJ3 := C.mine hJr hm1 (by omega)
      have ho1 := hor.mine hm1 (by omega)
      clear s0 s1 s2 s3 s4 f0 f1 f2 f3
      generalize (wr.alloc (.cells #[.int .i64 k2, .int .i64 a2, .int .i64 b2', .slice ad2 t2 cap2] 41)).drew = W2 at *
      have hw2' : Below w0.heap.size w0 W2 := hw0.trans (ho1.below (by omega) (by omega) (by omega) (by omega))
      rw [wpTakeT]
      rw [seqT_eq]
      simp only [List.getElem?_toArray, List.getElem?_cons_succ, List.getElem?_cons_zero]
      go_wp2_with fail
      have HC := HI.out W2 hJ3 hw2'
      clear HI
      have HXE := Lib.hid (fun x => playL_err st s j hlt2 qr x ts)
      have HXO := Lib.hid (fun q' v => playL_ok st s j hlt2 qr q' v ts)
      generalize hR2 : GT.play st s[j] qr = R2 at *
      refine HC.mono ?_
      rintro e w4 he
      cases R2 with
      | error x =>
        obtain ⟨rfl, g2, ho2⟩ := he
        have fin : ([] : List Deferred) = [] ∧ Md w.heap.size p1 p2 J (asList R) g w (.panicked [{ v := .iface 63 (.int .i64 x), recovered := false }]) w4 := by
          have : R = .error x := HE.out.symm.trans (HXE.out x rfl)
          rw [this]
          exact ⟨rfl, rfl, g2, ho1.trans ho2⟩
        exact fin
      | ok r =>
        obtain ⟨t, q2⟩ := r
        obtain ⟨u, rfl, g2, hJ4, ho2, S2, hS2, hv⟩ := he
        obtain ⟨l5, n5, k5, ad5, cap5, rfl⟩ := hv.shape
        have hEN := Lib.hid (HXO.out q2 t rfl)
        have hpb3 := hpb2.out t q2 rfl
        have hgn2 := ho2.new
        have hl4 := C.lt _ _ _ hJ4
        have hzw4 := ho2.size
        have x1 : Blk w4 wr.heap.size #[.int .i64 k2, .int .i64 a2, .int .i64 b2', .slice ad2 t2 cap2] 41 := (ho2.blk _ (by omega) (by omega) (by omega) (by omega)).trans x1
        have y2 : Blk w4 (w.heap.size + 1) #[Value.bool false, Value.int IntKind.i64 0, Value.slice none 0 0] 27 := (ho2.blk _ (by omega) (by omega) (by omega) (by omega)).trans y2
        have y3 : Blk w4 (w.heap.size + 1 + 1) #[Value.bool true, Value.int IntKind.i64 0, iv] 27 := (ho2.blk _ (by omega) (by omega) (by omega) (by omega)).trans y3
        have hit4 : Items w4 (w.heap.size + 3) S iv cs ts := hit1.keep hzw4 (fun b hb hbl => ho2.blk _ hbl (by have := hS b hb; omega) (by have := hS b hb; omega) (by have := hS b hb; omega)) (fun b hb hbl => ho2.blk _ hbl (by have := hit1.lt b hb; omega) (by have := hit1.lt b hb; omega) (by intro e; rw [e] at hb; exact hivg hb))
        have s0 := x1.cell 0
        have s1 := x1.cell 1
        have s2 := x1.cell 2
        have s3 := x1.cell 3
        have s4 := y3.cell 2
        simp only [List.getElem?_toArray, List.getElem?_cons_succ, List.getElem?_cons_zero] at s0 s1 s2 s3 s4
        go_wp2_with fail
        refine And.intro (fun _ => ⟨s0, s1, s2, s3, s4⟩) ?_
        rw [seqT_eq]
        simp only [List.getElem?_toArray, List.getElem?_cons_succ, List.getElem?_cons_zero]
        go_wp2_with fail
        have hm5 : Mine (w.heap.size + 3) p1 p2 g2 w4 (w4.alloc (.cells #[.bool l5, .int .i64 n5, .slice ad5 k5 cap5] 27)) := Mine.of_below (by repeat (first | with_reducible assumption | with_reducible exact Below.refl _ _ | with_reducible apply Below.drew | (with_reducible refine Below.alloc ?_ (by first | omega | (simp only [World.size_alloc, size_setCell, size_drew, size_drewN]; omega) | (dsimp only; omega) | (simp only [World.size_alloc, size_setCell, size_drew, size_drewN]; dsimp only; omega)) _) | (with_reducible refine Below.setCell ?_ (by first | omega | (simp only [World.size_alloc, size_setCell, size_drew, size_drewN]; omega) | (dsimp only; omega) | (simp only [World.size_alloc, size_setCell, size_drew, size_drewN]; dsimp only; omega)) _) | (with_reducible apply below_drewN))) (by omega)
        have z1 : Blk (w4.alloc (.cells #[.bool l5, .int .i64 n5, .slice ad5 k5 cap5] 27)) w4.heap.size #[.bool l5, .int .i64 n5, .slice ad5 k5 cap5] 27 := Blk.new _ _ _
        have hit5 : Items (w4.alloc (.cells #[.bool l5, .int .i64 n5, .slice ad5 k5 cap5] 27)) (w.heap.size + 3) S iv cs ts := hit4.keep (by simp) (fun b _ hb => Below.heap_alloc w4 _ b hb) (fun b _ hb => Below.heap_alloc w4 _ b hb)
        have hv5 := hv.ext (w' := w4.alloc (.cells #[.bool l5, .int .i64 n5, .slice ad5 k5 cap5] 27)) (by repeat (first | with_reducible assumption | with_reducible exact Below.refl _ _ | with_reducible apply Below.drew | (with_reducible refine Below.alloc ?_ (by first | omega | (simp only [World.size_alloc, size_setCell, size_drew, size_drewN]; omega) | (dsimp only; omega) | (simp only [World.size_alloc, size_setCell, size_drew, size_drewN]; dsimp only; omega)) _) | (with_reducible refine Below.setCell ?_ (by first | omega | (simp only [World.size_alloc, size_setCell, size_drew, size_drewN]; omega) | (dsimp only; omega) | (simp only [World.size_alloc, size_setCell, size_drew, size_drewN]; dsimp only; omega)) _) | (with_reducible apply below_drewN)))
        have hz5 : (w4.alloc (.cells #[.bool l5, .int .i64 n5, .slice ad5 k5 cap5] 27)).heap.size = w4.heap.size + 1 := by simp
        have x1 := x1.alloc (.cells #[.bool l5, .int .i64 n5, .slice ad5 k5 cap5] 27)
        have y2 := y2.alloc (.cells #[.bool l5, .int .i64 n5, .slice ad5 k5 cap5] 27)
        have y3 := y3.alloc (.cells #[.bool l5, .int .i64 n5, .slice ad5 k5 cap5] 27)
        have hJ5 := C.mine hJ4 hm5 (by omega)
        have ho5 := (ho1.trans ho2).mine hm5 (by omega)
        clear s0 s1 s2 s3 s4
        have s0 := x1.cell 0
        have s1 := x1.cell 1
        have s2 := x1.cell 2
        have s3 := x1.cell 3
        have s4 := y3.cell 2
        simp only [List.getElem?_toArray, List.getElem?_cons_succ, List.getElem?_cons_zero] at s0 s1 s2 s3 s4
        refine And.intro (fun _ => ⟨s0, s1, s2, s3, s4⟩) ?_
        generalize w4.alloc (.cells #[.bool l5, .int .i64 n5, .slice ad5 k5 cap5] 27) = w5 at *
        rw [seqT_eq]
        simp only [List.getElem?_toArray, List.getElem?_cons_succ, List.getElem?_cons_zero]
        obtain ⟨inf, hi0, hi1, hi2, hi3⟩ := info_value
        refine wpList_append_lies w5 rfl _ _ 25 rfl (w.heap.size + 3) 27 inf _ 3 40 Tryd.underlying25 hi0 hi1 hi2 hi3 rfl (by decide) iv ts.length cs rfl hit5.own ⟨w4.heap.size, 0, none⟩ 1 1 [.bool l5, .int .i64 n5, .slice ad5 k5 cap5] rfl rfl (World.news_of_block z1) (by simp [Value.oneCell']) (by decide) (by unfold maxLen; omega) (by omega) (by omega) w5.heap.size rfl ?_
        intro gi capi w6 how hgr hat hgl
        have hown2 : ∀ b, iv.ownBlock = some b → w.heap.size + 3 ≤ b ∧ b < wr.heap.size ∧ b ≠ g2 := by
          intro b hb
          have h1 := hit.lt b hb
          refine ⟨h1.1, h1.2, ?_⟩
          rcases hgn2 with e | e
          · rw [e]; intro e2; rw [e2] at hb; exact hivg hb
          · omega
        have hm6 : Mine (w.heap.size + 3) p1 p2 g2 w5 w6 := (Mine.refl _ _ _ _ _).grown hgr (by omega) (fun b hb => by have := hown2 b hb; omega) (Nat.le_refl _)
        have hitN : Items w6 (w.heap.size + 3) (fun b => S b ∨ S2 b) (.slice (some ⟨gi, 0, none⟩) (ts.length + 1) capi) (cs ++ [.bool l5, .int .i64 n5, .slice ad5 k5 cap5]) (ts ++ [t]) :=
          hit5.push how hgr (by rcases hat with e | e; · exact .inl (by rw [e]; rfl)
                                · exact .inr (by rw [← e]; rfl)) (fun b hb => by have := hS b hb; omega) (fun b hb => by
              have := hS2 b hb
              refine ⟨by omega, fun e => ?_⟩
              have := hown2 b e
              omega) hv5
        have hJ6 := C.mine hJ5 hm6 (by omega)
        have ho6 := ho5.mine hm6 (by omega)
        have hz6 := hgr.size
        have x1 : Blk w6 wr.heap.size #[.int .i64 k2, .int .i64 a2, .int .i64 b2', .slice ad2 t2 cap2] 41 := (hgr.block _ (by omega) (fun e => by have := hown2 _ e.symm; omega)).trans x1
        have y2 : Blk w6 (w.heap.size + 1) #[Value.bool false, Value.int IntKind.i64 0, Value.slice none 0 0] 27 := (hgr.block _ (by omega) (fun e => by have := hown2 _ e.symm; omega)).trans y2
        have y3 : Blk w6 (w.heap.size + 1 + 1) #[Value.bool true, Value.int IntKind.i64 0, iv] 27 := (hgr.block _ (by omega) (fun e => by have := hown2 _ e.symm; omega)).trans y3
        have hgi : gi ≠ g2 ∧ w.heap.size + 3 ≤ gi := by
          rcases hat with e | e
          · have := hown2 _ e; omega
          · have := hm5.below.size; omega
        clear s0 s1 s2 s3 s4
        have s0 := x1.cell 0
        have s1 := x1.cell 1
        have s2 := x1.cell 2
        have s3 := x1.cell 3
        have s4 := y3.cell 2
        have u4 := y3.unfrozen 2
        simp only [List.getElem?_toArray, List.getElem?_cons_succ, List.getElem?_cons_zero] at s0 s1 s2 s3 s4
        refine And.intro (fun _ => ⟨s0, s1, s2, s3, s4⟩) ?_
        simp only [Act.put, List.setIfInBounds_toArray, List.set_cons_zero, List.set_cons_succ]
        rw [seqT_eq]
        simp only [List.getElem?_toArray, List.getElem?_cons_succ, List.getElem?_cons_zero]
        go_wp2_with fail
        refine And.intro (fun h => absurd h (Nat.lt_irrefl _)) ?_
        rw [seqT_eq]
        simp only [List.getElem?_toArray, List.getElem?_cons_succ, List.getElem?_cons_zero]
        go_wp2_with fail
        refine And.intro (fun h => absurd h (by omega)) ?_
        rw [wpSeqT]
        go_wp2_with fail
        have hm7 : Mine w.heap.size p1 p2 g2 w6 (w6.setCell ⟨w.heap.size + 1 + 1, 2, none⟩ (.slice (some ⟨gi, 0, none⟩) (j + 1) capi)) := (Mine.refl _ _ _ _ _).set (by omega) (by omega) (by omega) (by omega) _ _
        have hJ7 := C.mine hJ6 hm7 (by omega)
        have ho7 := ho6.mine hm7 (Nat.le_refl _)
        have y3' := y3.set 2 (.slice (some ⟨gi, 0, none⟩) (j + 1) capi)
        simp only [List.setIfInBounds_toArray, List.set_cons_zero, List.set_cons_succ] at y3'
        have y2' := y2.oth (w.heap.size + 1 + 1) 2 (by omega) (.slice (some ⟨gi, 0, none⟩) (j + 1) capi)
        have hk7 : ∀ b, w.heap.size + 3 ≤ b → (w6.setCell ⟨w.heap.size + 1 + 1, 2, none⟩ (.slice (some ⟨gi, 0, none⟩) (j + 1) capi)).heap[b]? = w6.heap[b]? := fun b hb => Below.heap_setCell _ _ _ _ (by dsimp only; omega)
        rw [htl] at hitN
        have hitN7 : Items (w6.setCell ⟨w.heap.size + 1 + 1, 2, none⟩ (.slice (some ⟨gi, 0, none⟩) (j + 1) capi)) (w.heap.size + 3) (fun b => S b ∨ S2 b) (.slice (some ⟨gi, 0, none⟩) (j + 1) capi) (cs ++ [.bool l5, .int .i64 n5, .slice ad5 k5 cap5]) (ts ++ [t]) :=
          hitN.keep (by rw [size_setCell]; exact Nat.le_refl _) (fun b hb _ => hk7 b (by rcases hb with hb | hb; · have := hS b hb; omega
                                                                                         · have := hS2 b hb; omega)) (fun b hb _ => hk7 b (by have := hitN.lt b hb; omega))
        refine ⟨⟨j + 1, q2, g2, fun b => S b ∨ S2 b, .slice (some ⟨gi, 0, none⟩) (j + 1) capi, cs ++ [.bool l5, .int .i64 n5, .slice ad5 k5 cap5], ts ++ [t], by omega, by simp; omega, by go_num, hJ7, ho7, by rw [size_setCell]; omega, y2', y3', by omega, by omega, hitN7, fun b hb => ?_, ?_, by omega, ?_⟩, by simp [intOf]; omega⟩
        · rw [size_setCell]
          rcases hb with hb | hb
          · have := hS b hb
            omega
          · have := hS2 b hb
            omega
        · simp [Value.ownBlock]; exact hgi.1
        · exact hEN.out.symm.trans HE.out
    · have hjl : j = s.length := by omega
      have HF := HE.out
      rw [List.drop_eq_nil_of_le (by omega : s.length ≤ j)] at HF
      have HX : Hid (R = .ok (ts, qr)) := by show _ = _; rw [← HF]; simp [GT.playL, app]
      clear HF HE
      have p1' : ¬ ((j : Int) < (s.length : Int)) := by omega
      obtain ⟨adi, capi, rfl⟩ := hit.shape
      have bb3' : Blk wr (w.heap.size + 1 + 1) #[Value.bool true, Value.int IntKind.i64 0, .slice adi ts.length capi] 27 := bb3
      have s0 := bb3'.cell 0
      have s1 := bb3'.cell 1
      have s2 := bb3'.cell 2
      have d0 := bb2.cell 0
      have d1 := bb2.cell 1
      have d2 := bb2.cell 2
      have u0 := bb2.unfrozen 0
      have u1 := bb2.unfrozen 1
      have u2 := bb2.unfrozen 2
      simp only [List.getElem?_toArray, List.getElem?_cons_succ, List.getElem?_cons_zero] at s0 s1 s2 d0 d1 d2
      go_wp2_with fail
      obtain ⟨b5, hfin⟩ := made_end C (by omega) (by omega) (by omega) (by omega) (by omega) (by omega) hJr hor bb2 (fun b h => by
        rcases h with h | h
        · have := hS b h; omega
        · have := hit.lt b h
          refine ⟨by omega, by omega, ?_, by omega⟩
          intro e
          rw [e] at h
          exact hivg h) (c0 := .bool true) (c1 := .int .i64 0) (c2 := .slice adi ts.length capi) hit.val
      have hts : ts.length = s.length := by omega
      rw [hts] at b5 hfin
      clear d0 d1 d2 u0 u1 u2 s0 s1 s2
      generalize ((wr.setCell ⟨w.heap.size + 1, 0, none⟩ (.bool true)).setCell ⟨w.heap.size + 1, 1, none⟩ (.int .i64 0)).setCell ⟨w.heap.size + 1, 2, none⟩ (.slice adi s.length capi) = W4 at *
      have d0 := b5.cell 0
      have d1 := b5.cell 1
      have d2 := b5.cell 2
      simp only [List.getElem?_toArray, List.getElem?_cons_succ, List.getElem?_cons_zero] at d0 d1 d2
      refine bodyPost_ret (v := .agg #[.bool true, .int .i64 0, .slice adi s.length capi]) (by simp [results, Tryd.results46, go_sem, d0, d1, d2]) rfl ?_
      rw [HX.out]
      exact ⟨_, rfl, hfin⟩
end
end Go.Proofs.YtcecpggkeaohnaaDoor
