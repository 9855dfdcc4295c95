/- The walks through what a generator makes: one number, one of some. -/
import Derived.Test.YtcecpggkeaohnaaDoorMadeB
import Derived.Deep.DeepCutAuto
namespace Go.Proofs.YtcecpggkeaohnaaDoor
set_option maxRecDepth 100000
open Go.RowKit
set_option linter.unusedSimpArgs false
set_option linter.unusedVariables false
section
variable {σ : Type} {B k p1 p2 : Nat} {st : Int → σ → Except Int (Int × σ)} {J : σ → Nat → World → Prop} {bud : σ → Nat}
set_option maxHeartbeats 2000000 in
theorem made_2 (C : Cho B k p1 p2 st J bud) (q : σ) (hbq : 1 ≤ bud q) (g : Nat) (w : World) (hJ : J q g w) (a b : Int) (ad : Option Addr) (cap : Nat) (n : Nat) (h0 : -1073741824 ≤ a) (h1 : b ≤ 1073741824) (h2 : a ≤ b) (h3 : b - a ≤ 1000) (s : List GT) :
   Calls Tryd.prog 46 #[.func (.func k) #[] #[.pointer (some ⟨p1, 0, none⟩), .pointer (some ⟨p2, 0, none⟩)], .agg #[.int .i64 2, .int .i64 a, .int .i64 b, .slice ad n cap]] w (Md w.heap.size p1 p2 J (GT.play st (.mk 2 a b s) q) g w) := by
  have hk := C.enter
  have HH := Lib.hid (C.call (b - a) q g)
  have hlt := C.lt q g w hJ
  have HP : Hid (GT.play st (.mk 2 a b s) q = match st (b - a) q with
      | .error e => .error e
      | .ok (c, q) => .ok (.mk false (a + c) [], q)) := by show _ = _; simp only [GT.play, if_pos (rfl : (2:Int) = 2), show ¬ ((2:Int) = 1) by decide, if_false]; rfl
  rw [HP.out]
  have HBD := Lib.hid (C.bd (b - a) q)
  generalize hR : st (b - a) q = R at *
  clear HP
  go_enter Tryd.func46, Tryd.ntmps46
  go_wp2_with fail
  generalize hW : ((w.alloc (Obj.cells #[Value.int IntKind.i64 2, Value.int IntKind.i64 a, Value.int IntKind.i64 b, Value.slice ad n cap] 41)).alloc
      (Obj.cells #[Value.bool false, Value.int IntKind.i64 0, Value.slice none 0 0] 27)).alloc (Obj.cells #[Value.bool true, Value.int IntKind.i64 0, Value.slice none 0 0] 27) = W
  have hB : Below w.heap.size w W := by rw [← hW]; repeat (first | with_reducible assumption | with_reducible exact Below.refl _ _ | with_reducible apply Below.drew | (with_reducible refine Below.alloc ?_ (by first | omega | (simp only [World.size_alloc, size_setCell, size_drew, size_drewN]; omega) | (dsimp only; omega) | (simp only [World.size_alloc, size_setCell, size_drew, size_drewN]; dsimp only; omega)) _) | (with_reducible refine Below.setCell ?_ (by first | omega | (simp only [World.size_alloc, size_setCell, size_drew, size_drewN]; omega) | (dsimp only; omega) | (simp only [World.size_alloc, size_setCell, size_drew, size_drewN]; dsimp only; omega)) _) | (with_reducible apply below_drewN))
  have hz : W.heap.size = w.heap.size + 3 := by rw [← hW]; simp
  have b1 : Blk W w.heap.size #[Value.int IntKind.i64 2, Value.int IntKind.i64 a, Value.int IntKind.i64 b, Value.slice ad n cap] 41 := by rw [← hW]; exact ((Blk.new _ _ _).alloc _).alloc _
  have b2 : Blk W (w.heap.size + 1) #[Value.bool false, Value.int IntKind.i64 0, Value.slice none 0 0] 27 := by rw [← hW]; exact (show Blk _ _ _ _ by simpa using Blk.new (w.alloc (Obj.cells #[Value.int IntKind.i64 2, Value.int IntKind.i64 a, Value.int IntKind.i64 b, Value.slice ad n cap] 41)) #[Value.bool false, Value.int IntKind.i64 0, Value.slice none 0 0] 27).alloc _
  clear hW
  have c1 := b1.cell 1
  have c2 := b1.cell 2
  simp only [List.getElem?_toArray, List.getElem?_cons_succ, List.getElem?_cons_zero] at c1 c2
  refine region_take (S := fun w' => w'.cell? ⟨w.heap.size, 1, none⟩ = some (.int .i64 a) ∧ w'.cell? ⟨w.heap.size, 2, none⟩ = some (.int .i64 b)) (n := 11) (takes := [0, 1, 2, 3, 4, 5, 6, 7]) (rest := [8, 9, 10, 11]) (hm := by kernel_rfl) (hB := by kernel_rfl) (hQ := fun c a d v w h => by cases d <;> exact h) (hS := ⟨c1, c2⟩) ?_
  iterate 8
    rw [takeT_eq]
    simp only [List.getElem?_toArray, List.getElem?_cons_succ, List.getElem?_cons_zero]
    refine ⟨?_, .inl ⟨by rfl, ?_⟩, ?_⟩
    rotate_left
    · rintro w' ⟨s1, s2⟩
      go_simp
      rfl
    simp only [Act.put, List.setIfInBounds_toArray, List.set_cons_zero, List.set_cons_succ]
  have hm : Mine w.heap.size p1 p2 g w W.drew := (Mine.of_below hB (Nat.le_refl _)).drew
  have hJ2 := C.mine hJ hm (by omega)
  have b2' : Blk W.drew (w.heap.size + 1) #[Value.bool false, Value.int IntKind.i64 0, Value.slice none 0 0] 27 := b2
  have b1' : Blk W.drew w.heap.size #[Value.int IntKind.i64 2, Value.int IntKind.i64 a, Value.int IntKind.i64 b, Value.slice ad n cap] 41 := b1
  have hz2 : W.drew.heap.size = w.heap.size + 3 := hz
  clear b1 b2 c1 c2
  generalize W.drew = W2 at *
  rw [wpTakeT]
  rw [seqT_eq]
  simp only [List.getElem?_toArray, List.getElem?_cons_succ, List.getElem?_cons_zero]
  go_wp2_with fail
  refine (HH.out W2 (by omega) (by omega) (by omega) hJ2).mono ?_
  rintro e w3 he
  cases R with
  | error x =>
    obtain ⟨rfl, g', ho⟩ := he
    have fin : ([] : List Deferred) = [] ∧ Md w.heap.size p1 p2 J (.error x) g w (.panicked [{ v := .iface 63 (.int .i64 x), recovered := false }]) w3 := ⟨rfl, rfl, g', ((Own.refl _ _ _ _).mine hm (Nat.le_refl _)).trans ho⟩
    exact fin
  | ok r =>
    obtain ⟨c, q'⟩ := r
    obtain ⟨rfl, g', hJ3, ho⟩ := he
    have hc := HBD.out c q' (by omega) rfl
    have b1 : Blk w3 w.heap.size #[Value.int IntKind.i64 2, Value.int IntKind.i64 a, Value.int IntKind.i64 b, Value.slice ad n cap] 41 := (ho.blk _ (by omega) (by omega) (by omega) (by omega)).trans b1'
    have b2 : Blk w3 (w.heap.size + 1) #[Value.bool false, Value.int IntKind.i64 0, Value.slice none 0 0] 27 := (ho.blk _ (by omega) (by omega) (by omega) (by omega)).trans b2'
    have hz3 := ho.size
    have c1 := b1.cell 1
    have c2 := b1.cell 2
    have d0 := b2.cell 0
    have d1 := b2.cell 1
    have d2 := b2.cell 2
    have u0 := b2.unfrozen 0
    have u1 := b2.unfrozen 1
    have u2 := b2.unfrozen 2
    simp only [List.getElem?_toArray, List.getElem?_cons_succ, List.getElem?_cons_zero] at c1 c2 d0 d1 d2
    go_wp2_with fail
    refine And.intro (fun _ => ⟨c1, c2⟩) ?_
    rw [seqT_eq]
    simp only [List.getElem?_toArray, List.getElem?_cons_succ, List.getElem?_cons_zero]
    go_wp2_with fail
    refine And.intro (fun _ => ⟨c1, c2⟩) ?_
    rw [seqT_eq]
    simp only [List.getElem?_toArray, List.getElem?_cons_succ, List.getElem?_cons_zero]
    go_wp2_with fail
    refine And.intro (fun _ => ⟨c1, c2⟩) ?_
    rw [seqT_eq]
    simp only [List.getElem?_toArray, List.getElem?_cons_succ, List.getElem?_cons_zero]
    go_wp2_with fail
    refine And.intro (fun h => absurd h (Nat.lt_irrefl _)) ?_
    rw [wpSeqT]
    go_wp2_with fail
    have b3 := ((b2.set 0 (.bool false)).set 1 (.int .i64 (a + c))).set 2 (.slice none 0 0)
    simp only [List.setIfInBounds_toArray, List.set_cons_zero, List.set_cons_succ] at b3
    have hm3 : Mine w.heap.size p1 p2 g' w3 (((w3.setCell ⟨w.heap.size + 1, 0, none⟩ (.bool false)).setCell ⟨w.heap.size + 1, 1, none⟩ (.int .i64 (a + c))).setCell ⟨w.heap.size + 1, 2, none⟩ (.slice none 0 0)) := by
      have hg := ho.new
      exact (((Mine.refl _ _ _ _ _).set (by omega) (by omega) (by omega) (by omega) _ _).set (by omega) (by omega) (by omega) (by omega) _ _).set (by omega) (by omega) (by omega) (by omega) _ _
    have hJ4 := C.mine hJ3 hm3 (by omega)
    have ho4 := (((Own.refl _ _ _ _).mine hm (Nat.le_refl _)).trans ho).mine hm3 (Nat.le_refl _)
    clear d0 d1 d2 u0 u1 u2 c1 c2
    generalize ((w3.setCell ⟨w.heap.size + 1, 0, none⟩ (.bool false)).setCell ⟨w.heap.size + 1, 1, none⟩ (.int .i64 (a + c))).setCell ⟨w.heap.size + 1, 2, none⟩ (.slice none 0 0) = W4 at *
    have d0 := b3.cell 0
    have d1 := b3.cell 1
    have d2 := b3.cell 2
    simp only [List.getElem?_toArray, List.getElem?_cons_succ, List.getElem?_cons_zero] at d0 d1 d2
    refine bodyPost_ret (v := .agg #[.bool false, .int .i64 (a + c), .slice none 0 0]) (by simp [results, Tryd.results46, go_sem, d0, d1, d2]) rfl ?_
    exact ⟨_, rfl, g', hJ4, ho4, fun _ => False, fun b h => h.elim, ValIn.leaf _ _ ⟨by omega, by omega⟩⟩

set_option maxHeartbeats 2000000 in
theorem made_1 (C : Cho B k p1 p2 st J bud) (q : σ) (g : Nat) (w : World) (hJ : J q g w) (a b : Int) (ad : Option Addr) (cap : Nat) (n : Nat) (h0 : -1073741824 ≤ a) (h1 : a ≤ 1073741824) (s : List GT) :
   Calls Tryd.prog 46 #[.func (.func k) #[] #[.pointer (some ⟨p1, 0, none⟩), .pointer (some ⟨p2, 0, none⟩)], .agg #[.int .i64 1, .int .i64 a, .int .i64 b, .slice ad n cap]] w (Md w.heap.size p1 p2 J (GT.play st (.mk 1 a b s) q) g w) := by
  have hlt := C.lt q g w hJ
  have HP : Hid (GT.play st (.mk 1 a b s) q = .ok (.mk false a [], q)) := by show _ = _; simp [GT.play]
  rw [HP.out]
  clear HP
  go_enter Tryd.func46, Tryd.ntmps46
  go_upto_region 4 with (fail)
  generalize hW : ((w.alloc (Obj.cells #[Value.int IntKind.i64 1, Value.int IntKind.i64 a, Value.int IntKind.i64 b, Value.slice ad n cap] 41)).alloc
      (Obj.cells #[Value.bool false, Value.int IntKind.i64 0, Value.slice none 0 0] 27)).alloc (Obj.cells #[Value.bool true, Value.int IntKind.i64 0, Value.slice none 0 0] 27) = W
  have hB : Below w.heap.size w W := by rw [← hW]; repeat (first | with_reducible assumption | with_reducible exact Below.refl _ _ | with_reducible apply Below.drew | (with_reducible refine Below.alloc ?_ (by first | omega | (simp only [World.size_alloc, size_setCell, size_drew, size_drewN]; omega) | (dsimp only; omega) | (simp only [World.size_alloc, size_setCell, size_drew, size_drewN]; dsimp only; omega)) _) | (with_reducible refine Below.setCell ?_ (by first | omega | (simp only [World.size_alloc, size_setCell, size_drew, size_drewN]; omega) | (dsimp only; omega) | (simp only [World.size_alloc, size_setCell, size_drew, size_drewN]; dsimp only; omega)) _) | (with_reducible apply below_drewN))
  have hz : W.heap.size = w.heap.size + 3 := by rw [← hW]; simp
  have b1 : Blk W w.heap.size #[Value.int IntKind.i64 1, Value.int IntKind.i64 a, Value.int IntKind.i64 b, Value.slice ad n cap] 41 := by rw [← hW]; exact ((Blk.new _ _ _).alloc _).alloc _
  have b2 : Blk W (w.heap.size + 1) #[Value.bool false, Value.int IntKind.i64 0, Value.slice none 0 0] 27 := by rw [← hW]; exact (show Blk _ _ _ _ by simpa using Blk.new (w.alloc (Obj.cells #[Value.int IntKind.i64 1, Value.int IntKind.i64 a, Value.int IntKind.i64 b, Value.slice ad n cap] 41)) #[Value.bool false, Value.int IntKind.i64 0, Value.slice none 0 0] 27).alloc _
  clear hW
  have c1 := b1.cell 1
  have d0 := b2.cell 0
  have d1 := b2.cell 1
  have d2 := b2.cell 2
  have u0 := b2.unfrozen 0
  have u1 := b2.unfrozen 1
  have u2 := b2.unfrozen 2
  simp only [List.getElem?_toArray, List.getElem?_cons_succ, List.getElem?_cons_zero] at c1 d0 d1 d2
  have hm : Mine w.heap.size p1 p2 g w W := (Mine.of_below hB (Nat.le_refl _))
  go_wp2_with fail
  have b3 := ((b2.set 0 (.bool false)).set 1 (.int .i64 a)).set 2 (.slice none 0 0)
  simp only [List.setIfInBounds_toArray, List.set_cons_zero, List.set_cons_succ] at b3
  have hm3 : Mine w.heap.size p1 p2 g w (((W.setCell ⟨w.heap.size + 1, 0, none⟩ (.bool false)).setCell ⟨w.heap.size + 1, 1, none⟩ (.int .i64 a)).setCell ⟨w.heap.size + 1, 2, none⟩ (.slice none 0 0)) := by
    exact ((hm.set (by omega) (by omega) (by omega) (by omega) _ _).set (by omega) (by omega) (by omega) (by omega) _ _).set (by omega) (by omega) (by omega) (by omega) _ _
  have hJ4 := C.mine hJ hm3 (by omega)
  have ho4 := (Own.refl p1 p2 g w).mine hm3 (Nat.le_refl _)
  clear d0 d1 d2 u0 u1 u2 c1
  generalize ((W.setCell ⟨w.heap.size + 1, 0, none⟩ (.bool false)).setCell ⟨w.heap.size + 1, 1, none⟩ (.int .i64 a)).setCell ⟨w.heap.size + 1, 2, none⟩ (.slice none 0 0) = W4 at *
  have d0 := b3.cell 0
  have d1 := b3.cell 1
  have d2 := b3.cell 2
  simp only [List.getElem?_toArray, List.getElem?_cons_succ, List.getElem?_cons_zero] at d0 d1 d2
  refine bodyPost_ret (v := .agg #[.bool false, .int .i64 a, .slice none 0 0]) (by simp [results, Tryd.results46, go_sem, d0, d1, d2]) rfl ?_
  exact ⟨_, rfl, g, hJ4, ho4, fun _ => False, fun b h => h.elim, ValIn.leaf _ _ ⟨by omega, by omega⟩⟩
theorem Own.below {lo g g' : Nat} {w w' : World} (h : Own p1 p2 g g' w w') (h1 : lo ≤ p1) (h2 : lo ≤ p2) (h3 : lo ≤ g) (hz : lo ≤ w.heap.size) : Below lo w w' :=
  ⟨h.os, h.tape, h.output, h.size, fun b hb => h.blk b (by omega) (by omega) (by omega) (by omega)⟩
theorem made_end (C : Cho B k p1 p2 st J bud) {q : σ} {g g' : Nat} {w w3 : World} (hb : B ≤ w.heap.size) (hp1 : p1 < w.heap.size) (hp2 : p2 < w.heap.size) (hg : g < w.heap.size) (hz : w.heap.size + 3 ≤ w3.heap.size) (hg3 : g' ≠ w.heap.size + 1) (hJ : J q g' w3) (ho : Own p1 p2 g g' w w3)
    {o0 o1 o2 : Value} (b2 : Blk w3 (w.heap.size + 1) #[o0, o1, o2] 27) {S : Nat → Prop} (hS : ∀ b, S b → w.heap.size ≤ b ∧ b < w3.heap.size ∧ b ≠ g' ∧ b ≠ w.heap.size + 1) {c0 c1 c2 : Value} {u : Value} {t : VT} (hv : ValIn S w3 u t) :
    Blk (((w3.setCell ⟨w.heap.size + 1, 0, none⟩ c0).setCell ⟨w.heap.size + 1, 1, none⟩ c1).setCell ⟨w.heap.size + 1, 2, none⟩ c2) (w.heap.size + 1) #[c0, c1, c2] 27 ∧
    ∃ g'', J q g'' (((w3.setCell ⟨w.heap.size + 1, 0, none⟩ c0).setCell ⟨w.heap.size + 1, 1, none⟩ c1).setCell ⟨w.heap.size + 1, 2, none⟩ c2) ∧
      Own p1 p2 g g'' w (((w3.setCell ⟨w.heap.size + 1, 0, none⟩ c0).setCell ⟨w.heap.size + 1, 1, none⟩ c1).setCell ⟨w.heap.size + 1, 2, none⟩ c2) ∧
      ∃ S : Nat → Prop, (∀ b, S b → w.heap.size ≤ b ∧ b < (((w3.setCell ⟨w.heap.size + 1, 0, none⟩ c0).setCell ⟨w.heap.size + 1, 1, none⟩ c1).setCell ⟨w.heap.size + 1, 2, none⟩ c2).heap.size ∧ b ≠ g'') ∧
        ValIn S (((w3.setCell ⟨w.heap.size + 1, 0, none⟩ c0).setCell ⟨w.heap.size + 1, 1, none⟩ c1).setCell ⟨w.heap.size + 1, 2, none⟩ c2) u t := by
  have b3 := ((b2.set 0 c0).set 1 c1).set 2 c2
  simp only [List.setIfInBounds_toArray, List.set_cons_zero, List.set_cons_succ] at b3
  have hm3 : Mine w.heap.size p1 p2 g' w3 (((w3.setCell ⟨w.heap.size + 1, 0, none⟩ c0).setCell ⟨w.heap.size + 1, 1, none⟩ c1).setCell ⟨w.heap.size + 1, 2, none⟩ c2) := by
    exact (((Mine.refl _ _ _ _ _).set (by omega) (by omega) (by omega) (by omega) _ _).set (by omega) (by omega) (by omega) (by omega) _ _).set (by omega) (by omega) (by omega) (by omega) _ _
  have hkeep : ∀ b, b ≠ w.heap.size + 1 → (((w3.setCell ⟨w.heap.size + 1, 0, none⟩ c0).setCell ⟨w.heap.size + 1, 1, none⟩ c1).setCell ⟨w.heap.size + 1, 2, none⟩ c2).heap[b]? = w3.heap[b]? := by
    intro b hb
    rw [Below.heap_setCell _ _ _ _ hb, Below.heap_setCell _ _ _ _ hb, Below.heap_setCell _ _ _ _ hb]
  refine ⟨b3, g', C.mine hJ hm3 hb, ho.mine hm3 (Nat.le_refl _), S, fun b h => ?_, hv.keep (by simp only [size_setCell]; exact Nat.le_refl _) (fun b h hl => ⟨h, hkeep b (hS b h).2.2.2⟩)⟩
  have := hS b h
  simp only [size_setCell]
  omega
theorem playI_get (st : Int → σ → Except Int (Int × σ)) (s : List GT) : ∀ (i : Nat) (h : i < s.length) (q : σ), GT.playI st s i q = GT.play st s[i] q := by
  induction s with
  | nil => intro i h; simp at h
  | cons x s ih =>
    intro i h q
    cases i with
    | zero => rfl
    | succ i => exact ih i (by simpa using h) q
set_option maxHeartbeats 4000000 in
theorem made_5 (C : Cho B k p1 p2 st J bud) (w0 : World) (h0B : w0.heap.size ≤ B) (q : σ) (g : Nat) (w : World) (hJ : J q g w) (hw0 : Below w0.heap.size w0 w) (a b : Int) (ad : Option Addr) (cap : Nat) (s : List GT) (hs : GensAt w0 ad s) (hs0 : s.length ≠ 0) (hs1 : s.length ≤ 1000) (hbq : 1 + GT.costL s ≤ bud q)
   (IH : ∀ x ∈ s, ∀ q g w v, GT.cost x ≤ bud q → J q g w → Below w0.heap.size w0 w → GenAt w0 v x → Calls Tryd.prog 46 #[.func (.func k) #[] #[.pointer (some ⟨p1, 0, none⟩), .pointer (some ⟨p2, 0, none⟩)], v] w (Md w.heap.size p1 p2 J (GT.play st x q) g w)) :
   Calls Tryd.prog 46 #[.func (.func k) #[] #[.pointer (some ⟨p1, 0, none⟩), .pointer (some ⟨p2, 0, none⟩)], .agg #[.int .i64 5, .int .i64 a, .int .i64 b, .slice ad s.length cap]] w (Md w.heap.size p1 p2 J (GT.play st (.mk 5 a b s) q) g w) := by
  have hk := C.enter
  have HH := Lib.hid (C.call ((s.length : Int) - 1) q g)
  have hlt := C.lt q g w hJ
  have HP : Hid (GT.play st (.mk 5 a b s) q = match st ((s.length : Int) - 1) q with
      | .error e => .error e
      | .ok (c, q) => GT.playI st s c.toNat q) := by show _ = _; simp only [GT.play, if_pos (rfl : (5:Int) = 5), show ¬ ((5:Int) = 1) by decide, show ¬ ((5:Int) = 2) by decide, show ¬ ((5:Int) = 3) by decide, show ¬ ((5:Int) = 4) by decide, if_false]; rfl
  rw [HP.out]
  have HBD := Lib.hid (C.bd ((s.length : Int) - 1) q)
  have HBB := Lib.hid (C.bdd ((s.length : Int) - 1) q)
  have IHH := Lib.hid IH
  clear IH
  generalize hR : st ((s.length : Int) - 1) q = R at *
  clear HP
  go_enter Tryd.func46, Tryd.ntmps46
  go_wp2_with fail
  generalize hW : ((w.alloc (Obj.cells #[Value.int IntKind.i64 5, Value.int IntKind.i64 a, Value.int IntKind.i64 b, Value.slice ad s.length cap] 41)).alloc
      (Obj.cells #[Value.bool false, Value.int IntKind.i64 0, Value.slice none 0 0] 27)).alloc (Obj.cells #[Value.bool true, Value.int IntKind.i64 0, Value.slice none 0 0] 27) = W
  have hB : Below w.heap.size w W := by rw [← hW]; repeat (first | with_reducible assumption | with_reducible exact Below.refl _ _ | with_reducible apply Below.drew | (with_reducible refine Below.alloc ?_ (by first | omega | (simp only [World.size_alloc, size_setCell, size_drew, size_drewN]; omega) | (dsimp only; omega) | (simp only [World.size_alloc, size_setCell, size_drew, size_drewN]; dsimp only; omega)) _) | (with_reducible refine Below.setCell ?_ (by first | omega | (simp only [World.size_alloc, size_setCell, size_drew, size_drewN]; omega) | (dsimp only; omega) | (simp only [World.size_alloc, size_setCell, size_drew, size_drewN]; dsimp only; omega)) _) | (with_reducible apply below_drewN))
  have hz : W.heap.size = w.heap.size + 3 := by rw [← hW]; simp
  have b1 : Blk W w.heap.size #[Value.int IntKind.i64 5, Value.int IntKind.i64 a, Value.int IntKind.i64 b, Value.slice ad s.length cap] 41 := by rw [← hW]; exact ((Blk.new _ _ _).alloc _).alloc _
  have b2 : Blk W (w.heap.size + 1) #[Value.bool false, Value.int IntKind.i64 0, Value.slice none 0 0] 27 := by rw [← hW]; exact (show Blk _ _ _ _ by simpa using Blk.new (w.alloc (Obj.cells #[Value.int IntKind.i64 5, Value.int IntKind.i64 a, Value.int IntKind.i64 b, Value.slice ad s.length cap] 41)) #[Value.bool false, Value.int IntKind.i64 0, Value.slice none 0 0] 27).alloc _
  clear hW
  have c1 := b1.cell 3
  simp only [List.getElem?_toArray, List.getElem?_cons_succ, List.getElem?_cons_zero] at c1
  refine region_take (S := fun w' => w'.cell? ⟨w.heap.size, 3, none⟩ = some (.slice ad s.length cap)) (n := 12) (takes := [0, 1, 2, 3, 4, 5, 6, 7]) (rest := [8, 9, 10, 11, 12]) (hm := by kernel_rfl) (hB := by kernel_rfl) (hQ := fun c a d v w h => by cases d <;> exact h) (hS := c1) ?_
  iterate 8
    rw [takeT_eq]
    simp only [List.getElem?_toArray, List.getElem?_cons_succ, List.getElem?_cons_zero]
    refine ⟨?_, .inl ⟨by rfl, ?_⟩, ?_⟩
    rotate_left
    · rintro w' s1
      go_simp
      rfl
    simp only [Act.put, List.setIfInBounds_toArray, List.set_cons_zero, List.set_cons_succ]
  have hm : Mine w.heap.size p1 p2 g w W.drew := (Mine.of_below hB (Nat.le_refl _)).drew
  have hJ2 := C.mine hJ hm (by omega)
  have b2' : Blk W.drew (w.heap.size + 1) #[Value.bool false, Value.int IntKind.i64 0, Value.slice none 0 0] 27 := b2
  have b1' : Blk W.drew w.heap.size #[Value.int IntKind.i64 5, Value.int IntKind.i64 a, Value.int IntKind.i64 b, Value.slice ad s.length cap] 41 := b1
  have hz2 : W.drew.heap.size = w.heap.size + 3 := hz
  have hw2 : Below w0.heap.size w0 W.drew := hw0.trans (hm.below.mono hw0.size)
  clear b1 b2 c1
  generalize W.drew = W2 at *
  have hz0 := hw0.size
  rw [wpTakeT]
  rw [seqT_eq]
  simp only [List.getElem?_toArray, List.getElem?_cons_succ, List.getElem?_cons_zero]
  go_wp2_with fail
  refine (HH.out W2 (by omega) (by omega) (by omega) hJ2).mono ?_
  rintro e w3 he
  cases R with
  | error x =>
    obtain ⟨rfl, g', ho⟩ := he
    have fin : ([] : List Deferred) = [] ∧ Md w.heap.size p1 p2 J (.error x) g w (.panicked [{ v := .iface 63 (.int .i64 x), recovered := false }]) w3 := ⟨rfl, rfl, g', ((Own.refl _ _ _ _).mine hm (Nat.le_refl _)).trans ho⟩
    exact fin
  | ok r =>
    obtain ⟨c, q'⟩ := r
    obtain ⟨rfl, g', hJ3, ho⟩ := he
    have hc := HBD.out c q' (by omega) rfl
    obtain ⟨i, rfl⟩ := Int.eq_ofNat_of_zero_le hc.1
    have hi : i < s.length := by omega
    have hbb := HBB.out _ q' (by omega) rfl
    have hcx := GT.cost_le s i hi
    have b1 : Blk w3 w.heap.size #[Value.int IntKind.i64 5, Value.int IntKind.i64 a, Value.int IntKind.i64 b, Value.slice ad s.length cap] 41 := (ho.blk _ (by omega) (by omega) (by omega) (by omega)).trans b1'
    have b2 : Blk w3 (w.heap.size + 1) #[Value.bool false, Value.int IntKind.i64 0, Value.slice none 0 0] 27 := (ho.blk _ (by omega) (by omega) (by omega) (by omega)).trans b2'
    have hz3 := ho.size
    have hw3 : Below w0.heap.size w0 w3 := hw2.trans (ho.below (by omega) (by omega) (by omega) (by omega))
    obtain ⟨bl, off, rfl, hbl, hc2⟩ := hs.at' (by omega)
    obtain ⟨k2, a2, b2', t2, ad2, cap2, e0, e1, e2, e3, hg2⟩ := hc2 i hi
    have f0 := (hw3.cell (p := ⟨bl, _, none⟩) hbl).trans e0
    have f1 := (hw3.cell (p := ⟨bl, _, none⟩) hbl).trans e1
    have f2 := (hw3.cell (p := ⟨bl, _, none⟩) hbl).trans e2
    have f3 := (hw3.cell (p := ⟨bl, _, none⟩) hbl).trans e3
    clear e0 e1 e2 e3 hc2
    have c1 := b1.cell 3
    simp only [List.getElem?_toArray, List.getElem?_cons_succ, List.getElem?_cons_zero] at c1
    have HI := Lib.hid (IHH.out s[i] (List.getElem_mem hi) q' g' w3 _ (by omega) hJ3 hw3 hg2)
    have HE : Hid (GT.playI st s (Int.toNat (i : Int)) q' = GT.play st s[i] q') := by show _ = _; rw [Int.toNat_natCast]; exact playI_get st s i hi q'
    generalize hR2 : GT.play st s[i] q' = R2 at *
    have p0 : (0 : Int) ≤ (i : Int) := by omega
    have p1' : (i : Int) < (s.length : Int) := by omega
    clear hg2
    go_wp2_with fail
    refine And.intro (fun _ => c1) ?_
    rw [seqT_eq]
    simp only [List.getElem?_toArray, List.getElem?_cons_succ, List.getElem?_cons_zero]
    go_wp2_with fail
    refine And.intro (fun _ => c1) ?_
    rw [seqT_eq]
    simp only [List.getElem?_toArray, List.getElem?_cons_succ, List.getElem?_cons_zero]
    go_wp2_with fail
    refine And.intro (fun _ => c1) ?_
    rw [seqT_eq]
    simp only [List.getElem?_toArray, List.getElem?_cons_succ, List.getElem?_cons_zero]
    go_wp2_with fail
    refine HI.out.mono ?_
    rintro e w4 he
    cases R2 with
    | error x =>
      obtain ⟨rfl, g2, ho2⟩ := he
      have fin : ([] : List Deferred) = [] ∧ Md w.heap.size p1 p2 J (GT.playI st s (Int.toNat (i : Int)) q') g w (.panicked [{ v := .iface 63 (.int .i64 x), recovered := false }]) w4 := by
        rw [HE.out]; exact ⟨rfl, rfl, g2, (((Own.refl _ _ _ _).mine hm (Nat.le_refl _)).trans ho).trans ho2⟩
      exact fin
    | ok r =>
      obtain ⟨t, q2⟩ := r
      obtain ⟨u, rfl, g2, hJ4, ho2, S, hS, hv⟩ := he
      obtain ⟨l5, n5, k5, ad5, cap5, rfl⟩ := hv.shape
      have hg := ho.new
      have hg2 := ho2.new
      have hl3 := C.lt _ _ _ hJ3
      have hz4 := ho2.size
      have b3 : Blk w4 w.heap.size #[Value.int IntKind.i64 5, Value.int IntKind.i64 a, Value.int IntKind.i64 b, Value.slice (some ⟨bl, off, none⟩) s.length cap] 41 := (ho2.blk _ (by omega) (by omega) (by omega) (by omega)).trans b1
      have b4 : Blk w4 (w.heap.size + 1) #[Value.bool false, Value.int IntKind.i64 0, Value.slice none 0 0] 27 := (ho2.blk _ (by omega) (by omega) (by omega) (by omega)).trans b2
      clear c1
      have c1 := b3.cell 3
      have d0 := b4.cell 0
      have d1 := b4.cell 1
      have d2 := b4.cell 2
      have u0 := b4.unfrozen 0
      have u1 := b4.unfrozen 1
      have u2 := b4.unfrozen 2
      simp only [List.getElem?_toArray, List.getElem?_cons_succ, List.getElem?_cons_zero] at c1 d0 d1 d2
      go_wp2_with fail
      refine And.intro (fun _ => c1) ?_
      rw [seqT_eq]
      simp only [List.getElem?_toArray, List.getElem?_cons_succ, List.getElem?_cons_zero]
      go_wp2_with fail
      refine And.intro (fun h => absurd h (Nat.lt_irrefl _)) ?_
      rw [wpSeqT]
      go_wp2_with fail
      obtain ⟨b5, hfin⟩ := made_end C (by omega) (by omega) (by omega) (by omega) (by omega) (by omega) hJ4 ((((Own.refl _ _ _ _).mine hm (Nat.le_refl _)).trans ho).trans ho2) b4 (fun b h => by have := hS b h; omega) (c0 := .bool l5) (c1 := .int .i64 n5) (c2 := .slice ad5 k5 cap5) hv
      clear d0 d1 d2 u0 u1 u2 c1
      generalize (((w4.setCell ⟨w.heap.size + 1, 0, none⟩ (.bool l5)).setCell ⟨w.heap.size + 1, 1, none⟩ (.int .i64 n5)).setCell ⟨w.heap.size + 1, 2, none⟩ (.slice ad5 k5 cap5)) = W4 at *
      have d0 := b5.cell 0
      have d1 := b5.cell 1
      have d2 := b5.cell 2
      simp only [List.getElem?_toArray, List.getElem?_cons_succ, List.getElem?_cons_zero] at d0 d1 d2
      refine bodyPost_ret (v := .agg #[.bool l5, .int .i64 n5, .slice ad5 k5 cap5]) (by simp [results, Tryd.results46, go_sem, d0, d1, d2]) rfl ?_
      have hEE : GT.playI st s i q' = .ok (t, q2) := HE.out
      rw [hEE]
      exact ⟨_, rfl, hfin⟩

end
end Go.Proofs.YtcecpggkeaohnaaDoor
