/- The walks through what a generator makes: one number, one of some. The walk through what a generator makes: a list, of each one. The walk through what a generator makes: a list of so many; all ways. -/
import Derived.Test.YtocngjpjheockaaGENC
import Derived.Test.YtocngjpjheockaaPVT
import Derived.Test.YtocngjpjheockaaPA
import Derived.Test.YtocngjpjheockaaREG
import Derived.Deep.AppendLies
import Derived.Deep.DeepCutAuto
namespace Go.Proofs.Ytocngjpjheockaa
set_option maxRecDepth 100000
open Go.RowKit
set_option linter.unusedSimpArgs false
set_option linter.unusedVariables false
/-! ### worlds -/
/-- From w to w' only what a choice may change has changed: two variables, and the array that one of them holds. -/
structure Own (p1 p2 g g' : Nat) (w w' : World) : Prop where
  os : w'.os = w.os
  tape : w'.tape = w.tape
  output : w'.output = w.output
  size : w.heap.size ≤ w'.heap.size
  blk : ∀ b, b < w.heap.size → b ≠ p1 → b ≠ p2 → b ≠ g → w'.heap[b]? = w.heap[b]?
  new : g' = g ∨ w.heap.size ≤ g'
/-- From w to w' blocks below lo are as they were, and so are these. -/
structure Mine (lo p1 p2 g : Nat) (w w' : World) : Prop where
  below : Below lo w w'
  keep : ∀ b, b < w.heap.size → (b = p1 ∨ b = p2 ∨ b = g) → w'.heap[b]? = w.heap[b]?
section
variable {p1 p2 g g' g1 g2 lo : Nat} {w w' w1 w2 : World}
theorem Own.refl (p1 p2 g : Nat) (w : World) : Own p1 p2 g g w w := ⟨rfl, rfl, rfl, Nat.le_refl _, fun _ _ _ _ _ => rfl, .inl rfl⟩
theorem Own.trans (h : Own p1 p2 g g1 w w1) (k : Own p1 p2 g1 g2 w1 w2) : Own p1 p2 g g2 w w2 := by
  refine ⟨k.os.trans h.os, k.tape.trans h.tape, k.output.trans h.output, Nat.le_trans h.size k.size, fun b hb h1 h2 h3 => ?_, ?_⟩
  · have hn : b ≠ g1 := by rcases h.new with e | e <;> omega
    exact (k.blk b (Nat.lt_of_lt_of_le hb h.size) h1 h2 hn).trans (h.blk b hb h1 h2 h3)
  · have := h.size
    rcases k.new with e | e
    · rw [e]; exact h.new
    · right; omega
theorem Own.mine (h : Own p1 p2 g g' w w1) (k : Mine lo p1 p2 g' w1 w2) (hlo : w.heap.size ≤ lo) : Own p1 p2 g g' w w2 :=
  ⟨k.below.os.trans h.os, k.below.tape.trans h.tape, k.below.output.trans h.output, Nat.le_trans h.size k.below.size, fun b hb h1 h2 h3 => (k.below.block b (by omega)).trans (h.blk b hb h1 h2 h3), h.new⟩
theorem Mine.refl (lo p1 p2 g : Nat) (w : World) : Mine lo p1 p2 g w w := ⟨Below.refl _ _, fun _ _ _ => rfl⟩
theorem Mine.trans (h : Mine lo p1 p2 g w w1) (k : Mine lo p1 p2 g w1 w2) : Mine lo p1 p2 g w w2 :=
  ⟨h.below.trans k.below, fun b hb e => (k.keep b (Nat.lt_of_lt_of_le hb h.below.size) e).trans (h.keep b hb e)⟩
theorem Mine.of_below (h : Below w.heap.size w w') (hlo : lo ≤ w.heap.size) : Mine lo p1 p2 g w w' := ⟨h.mono hlo, fun b hb _ => h.block b hb⟩
theorem Mine.set (h : Mine lo p1 p2 g w w1) {b : Nat} (hb : lo ≤ b) (h1 : b ≠ p1) (h2 : b ≠ p2) (h3 : b ≠ g) (j : Nat) (v : Value) : Mine lo p1 p2 g w (w1.setCell ⟨b, j, none⟩ v) := by
  refine h.trans ⟨(Below.refl _ _).setCell hb v, fun c hc e => ?_⟩
  exact Below.heap_setCell w1 ⟨b, j, none⟩ v c (by rcases e with e | e | e <;> (rw [e]; dsimp only; omega))
theorem Mine.drew (h : Mine lo p1 p2 g w w1) : Mine lo p1 p2 g w w1.drew := ⟨Below.drew h.below, h.keep⟩
theorem Mine.grown (h : Mine lo p1 p2 g w w1) {r : Option Nat} (hg : w1.grownBy w2 r) (hlo : lo ≤ w1.heap.size) (hr : ∀ b, r = some b → lo ≤ b ∧ b ≠ p1 ∧ b ≠ p2 ∧ b ≠ g) (hz : w.heap.size ≤ w1.heap.size) : Mine lo p1 p2 g w w2 := by
  refine h.trans ⟨(Below.refl _ _).grown hg hlo (fun k hk => (hr k hk).1), fun b hb e => ?_⟩
  refine hg.block b hb (fun hk => ?_)
  have := hr b hk.symm
  omega
end
/-! ### a chooser -/
structure Cho {σ : Type} (B k p1 p2 : Nat) (st : Int → σ → Except Int (Int × σ)) (J : σ → Nat → World → Prop) (bud : σ → Nat) : Prop where
  enter : ∀ args w, Sem.run Try.prog (callFunc k args) w = .ok (.enter k args) w
  bd : ∀ m q c q', 0 ≤ m → st m q = .ok (c, q') → 0 ≤ c ∧ c ≤ m
  bdd : ∀ m q c q', 0 ≤ m → st m q = .ok (c, q') → bud q ≤ bud q' + 1
  stay : ∀ q g w w', J q g w → w.heap.size ≤ w'.heap.size → (∀ b, b < w.heap.size → (b < B ∨ b = p1 ∨ b = p2 ∨ b = g) → w'.heap[b]? = w.heap[b]?) → J q g w'
  lt : ∀ q g w, J q g w → B ≤ p1 ∧ p1 < w.heap.size ∧ B ≤ p2 ∧ p2 < w.heap.size ∧ B ≤ g ∧ g < w.heap.size
  call : ∀ m q g w, 0 ≤ m → m ≤ 1000 → 1 ≤ bud q → J q g w → Calls Try.prog k #[.int .i64 m, .pointer (some ⟨p1, 0, none⟩), .pointer (some ⟨p2, 0, none⟩)] w fun e w' => match st m q with
    | .ok (c, q') => e = .returned (.int .i64 c) ∧ ∃ g', J q' g' w' ∧ Own p1 p2 g g' w w'
    | .error x => e = .panicked [{ v := .iface 36 (.int .i64 x), recovered := false }] ∧ ∃ g', Own p1 p2 g g' w w'
section
variable {σ : Type} {B k p1 p2 : Nat} {st : Int → σ → Except Int (Int × σ)} {J : σ → Nat → World → Prop} {bud : σ → Nat}
theorem Cho.mine (C : Cho B k p1 p2 st J bud) {q : σ} {g lo : Nat} {w w' : World} (h : J q g w) (k : Mine lo p1 p2 g w w') (hlo : B ≤ lo) : J q g w' :=
  C.stay q g w w' h k.below.size (fun b hb e => by
    rcases e with e | e
    · exact k.below.block b (by omega)
    · exact k.keep b hb e)
/-- What is made: by the data. -/
def Md (lo p1 p2 : Nat) (J : σ → Nat → World → Prop) (r : Except Int (VT × σ)) (g : Nat) (w : World) (e : Ending) (w' : World) : Prop := match r with
  | .ok (t, q') => ∃ u, e = .returned u ∧ ∃ g', J q' g' w' ∧ Own p1 p2 g g' w w' ∧ ∃ S : Nat → Prop, (∀ b, S b → lo ≤ b ∧ b < w'.heap.size ∧ b ≠ g') ∧ ValIn S w' u t
  | .error x => e = .panicked [{ v := .iface 36 (.int .i64 x), recovered := false }] ∧ ∃ g', Own p1 p2 g g' w w'
end
end Go.Proofs.Ytocngjpjheockaa
namespace Go.Proofs.Ytocngjpjheockaa
set_option maxRecDepth 100000
open Go.RowKit
set_option linter.unusedSimpArgs false
set_option linter.unusedVariables false
section
variable {σ : Type} {B k p1 p2 : Nat} {st : Int → σ → Except Int (Int × σ)} {J : σ → Nat → World → Prop} {bud : σ → Nat}
set_option maxHeartbeats 2000000 in
theorem made_2 (C : Cho B k p1 p2 st J bud) (q : σ) (hbq : 1 ≤ bud q) (g : Nat) (w : World) (hJ : J q g w) (a b : Int) (ad : Option Addr) (cap : Nat) (n : Nat) (h0 : -1073741824 ≤ a) (h1 : b ≤ 1073741824) (h2 : a ≤ b) (h3 : b - a ≤ 1000) (s : List GT) :
   Calls Try.prog 37 #[.func (.func k) #[] #[.pointer (some ⟨p1, 0, none⟩), .pointer (some ⟨p2, 0, none⟩)], .agg #[.int .i64 2, .int .i64 a, .int .i64 b, .slice ad n cap]] w (Md w.heap.size p1 p2 J (GT.play st (.mk 2 a b s) q) g w) := by
  have hk := C.enter
  have HH := Lib.hid (C.call (b - a) q g)
  have hlt := C.lt q g w hJ
  have HP : Hid (GT.play st (.mk 2 a b s) q = match st (b - a) q with
      | .error e => .error e
      | .ok (c, q) => .ok (.mk false (a + c) [], q)) := by show _ = _; simp only [GT.play, if_pos (rfl : (2:Int) = 2), show ¬ ((2:Int) = 1) by decide, if_false]; rfl
  rw [HP.out]
  have HBD := Lib.hid (C.bd (b - a) q)
  generalize hR : st (b - a) q = R at *
  clear HP
  go_enter Try.func37, Try.ntmps37
  go_wp2_with fail
  generalize hW : ((w.alloc (Obj.cells #[Value.int IntKind.i64 2, Value.int IntKind.i64 a, Value.int IntKind.i64 b, Value.slice ad n cap] 43)).alloc
      (Obj.cells #[Value.bool false, Value.int IntKind.i64 0, Value.slice none 0 0] 48)).alloc (Obj.cells #[Value.bool true, Value.int IntKind.i64 0, Value.slice none 0 0] 48) = W
  have hB : Below w.heap.size w W := by rw [← hW]; repeat (first | with_reducible assumption | with_reducible exact Below.refl _ _ | with_reducible apply Below.drew | (with_reducible refine Below.alloc ?_ (by first | omega | (simp only [zA, zS, zD, zN]; omega) | (dsimp only; omega) | (simp only [zA, zS, zD, zN]; dsimp only; omega)) _) | (with_reducible refine Below.setCell ?_ (by first | omega | (simp only [zA, zS, zD, zN]; omega) | (dsimp only; omega) | (simp only [zA, zS, zD, zN]; dsimp only; omega)) _) | (with_reducible apply below_drewN))
  have hz : W.heap.size = w.heap.size + 3 := by rw [← hW]; simp
  have b1 : Blk W w.heap.size #[Value.int IntKind.i64 2, Value.int IntKind.i64 a, Value.int IntKind.i64 b, Value.slice ad n cap] 43 := by rw [← hW]; exact ((Blk.new _ _ _).alloc _).alloc _
  have b2 : Blk W (w.heap.size + 1) #[Value.bool false, Value.int IntKind.i64 0, Value.slice none 0 0] 48 := by rw [← hW]; exact (show Blk _ _ _ _ by simpa using Blk.new (w.alloc (Obj.cells #[Value.int IntKind.i64 2, Value.int IntKind.i64 a, Value.int IntKind.i64 b, Value.slice ad n cap] 43)) #[Value.bool false, Value.int IntKind.i64 0, Value.slice none 0 0] 48).alloc _
  clear hW
  have c1 := b1.cell 1
  have c2 := b1.cell 2
  simp only [List.getElem?_toArray, List.getElem?_cons_succ, List.getElem?_cons_zero] at c1 c2
  refine region_take (S := fun w' => w'.cell? ⟨w.heap.size, 1, none⟩ = some (.int .i64 a) ∧ w'.cell? ⟨w.heap.size, 2, none⟩ = some (.int .i64 b)) (n := 11) (takes := [0, 1, 2, 3, 4, 5, 6, 7]) (rest := [8, 9, 10, 11]) (hm := by kernel_rfl) (hB := by kernel_rfl) (hQ := fun c a d v w h => by cases d <;> exact h) (hS := ⟨c1, c2⟩) ?_
  iterate 8
    rw [takeT_eq]
    simp only [List.getElem?_toArray, List.getElem?_cons_succ, List.getElem?_cons_zero]
    refine ⟨?_, .inl ⟨by rfl, ?_⟩, ?_⟩
    rotate_left
    · rintro w' ⟨s1, s2⟩
      go_simp
      rfl
    simp only [Act.put, List.setIfInBounds_toArray, List.set_cons_zero, List.set_cons_succ]
  have hm : Mine w.heap.size p1 p2 g w W.drew := (Mine.of_below hB (Nat.le_refl _)).drew
  have hJ2 := C.mine hJ hm (by omega)
  have b2' : Blk W.drew (w.heap.size + 1) #[Value.bool false, Value.int IntKind.i64 0, Value.slice none 0 0] 48 := b2
  have b1' : Blk W.drew w.heap.size #[Value.int IntKind.i64 2, Value.int IntKind.i64 a, Value.int IntKind.i64 b, Value.slice ad n cap] 43 := b1
  have hz2 : W.drew.heap.size = w.heap.size + 3 := hz
  clear b1 b2 c1 c2
  generalize W.drew = W2 at *
  rw [wpTakeT]
  rw [seqT_eq]
  simp only [List.getElem?_toArray, List.getElem?_cons_succ, List.getElem?_cons_zero]
  go_wp2_with fail
  refine (HH.out W2 (by omega) (by omega) (by omega) hJ2).mono ?_
  rintro e w3 he
  cases R with
  | error x =>
    obtain ⟨rfl, g', ho⟩ := he
    have fin : ([] : List Deferred) = [] ∧ Md w.heap.size p1 p2 J (.error x) g w (.panicked [{ v := .iface 36 (.int .i64 x), recovered := false }]) w3 := ⟨rfl, rfl, g', ((Own.refl _ _ _ _).mine hm (Nat.le_refl _)).trans ho⟩
    exact fin
  | ok r =>
    obtain ⟨c, q'⟩ := r
    obtain ⟨rfl, g', hJ3, ho⟩ := he
    have hc := HBD.out c q' (by omega) rfl
    have b1 : Blk w3 w.heap.size #[Value.int IntKind.i64 2, Value.int IntKind.i64 a, Value.int IntKind.i64 b, Value.slice ad n cap] 43 := (ho.blk _ (by omega) (by omega) (by omega) (by omega)).trans b1'
    have b2 : Blk w3 (w.heap.size + 1) #[Value.bool false, Value.int IntKind.i64 0, Value.slice none 0 0] 48 := (ho.blk _ (by omega) (by omega) (by omega) (by omega)).trans b2'
    have hz3 := ho.size
    have c1 := b1.cell 1
    have c2 := b1.cell 2
    have d0 := b2.cell 0
    have d1 := b2.cell 1
    have d2 := b2.cell 2
    have u0 := b2.unfrozen 0
    have u1 := b2.unfrozen 1
    have u2 := b2.unfrozen 2
    simp only [List.getElem?_toArray, List.getElem?_cons_succ, List.getElem?_cons_zero] at c1 c2 d0 d1 d2
    go_wp2_with fail
    refine And.intro (fun _ => ⟨c1, c2⟩) ?_
    rw [seqT_eq]
    simp only [List.getElem?_toArray, List.getElem?_cons_succ, List.getElem?_cons_zero]
    go_wp2_with fail
    refine And.intro (fun _ => ⟨c1, c2⟩) ?_
    rw [seqT_eq]
    simp only [List.getElem?_toArray, List.getElem?_cons_succ, List.getElem?_cons_zero]
    go_wp2_with fail
    refine And.intro (fun _ => ⟨c1, c2⟩) ?_
    rw [seqT_eq]
    simp only [List.getElem?_toArray, List.getElem?_cons_succ, List.getElem?_cons_zero]
    go_wp2_with fail
    refine And.intro (fun h => absurd h (Nat.lt_irrefl _)) ?_
    rw [wpSeqT]
    go_wp2_with fail
    have b3 := ((b2.set 0 (.bool false)).set 1 (.int .i64 (a + c))).set 2 (.slice none 0 0)
    simp only [List.setIfInBounds_toArray, List.set_cons_zero, List.set_cons_succ] at b3
    have hm3 : Mine w.heap.size p1 p2 g' w3 (((w3.setCell ⟨w.heap.size + 1, 0, none⟩ (.bool false)).setCell ⟨w.heap.size + 1, 1, none⟩ (.int .i64 (a + c))).setCell ⟨w.heap.size + 1, 2, none⟩ (.slice none 0 0)) := by
      have hg := ho.new
      exact (((Mine.refl _ _ _ _ _).set (by omega) (by omega) (by omega) (by omega) _ _).set (by omega) (by omega) (by omega) (by omega) _ _).set (by omega) (by omega) (by omega) (by omega) _ _
    have hJ4 := C.mine hJ3 hm3 (by omega)
    have ho4 := (((Own.refl _ _ _ _).mine hm (Nat.le_refl _)).trans ho).mine hm3 (Nat.le_refl _)
    clear d0 d1 d2 u0 u1 u2 c1 c2
    generalize ((w3.setCell ⟨w.heap.size + 1, 0, none⟩ (.bool false)).setCell ⟨w.heap.size + 1, 1, none⟩ (.int .i64 (a + c))).setCell ⟨w.heap.size + 1, 2, none⟩ (.slice none 0 0) = W4 at *
    have d0 := b3.cell 0
    have d1 := b3.cell 1
    have d2 := b3.cell 2
    simp only [List.getElem?_toArray, List.getElem?_cons_succ, List.getElem?_cons_zero] at d0 d1 d2
    refine bodyPost_ret (v := .agg #[.bool false, .int .i64 (a + c), .slice none 0 0]) (by simp [results, Try.results37, go_sem, d0, d1, d2]) rfl ?_
    exact ⟨_, rfl, g', hJ4, ho4, fun _ => False, fun b h => h.elim, ValIn.leaf _ _ ⟨by omega, by omega⟩⟩

set_option maxHeartbeats 2000000 in
theorem made_1 (C : Cho B k p1 p2 st J bud) (q : σ) (g : Nat) (w : World) (hJ : J q g w) (a b : Int) (ad : Option Addr) (cap : Nat) (n : Nat) (h0 : -1073741824 ≤ a) (h1 : a ≤ 1073741824) (s : List GT) :
   Calls Try.prog 37 #[.func (.func k) #[] #[.pointer (some ⟨p1, 0, none⟩), .pointer (some ⟨p2, 0, none⟩)], .agg #[.int .i64 1, .int .i64 a, .int .i64 b, .slice ad n cap]] w (Md w.heap.size p1 p2 J (GT.play st (.mk 1 a b s) q) g w) := by
  have hlt := C.lt q g w hJ
  have HP : Hid (GT.play st (.mk 1 a b s) q = .ok (.mk false a [], q)) := by show _ = _; simp [GT.play]
  rw [HP.out]
  clear HP
  go_enter Try.func37, Try.ntmps37
  go_upto_region 4 with (fail)
  generalize hW : ((w.alloc (Obj.cells #[Value.int IntKind.i64 1, Value.int IntKind.i64 a, Value.int IntKind.i64 b, Value.slice ad n cap] 43)).alloc
      (Obj.cells #[Value.bool false, Value.int IntKind.i64 0, Value.slice none 0 0] 48)).alloc (Obj.cells #[Value.bool true, Value.int IntKind.i64 0, Value.slice none 0 0] 48) = W
  have hB : Below w.heap.size w W := by rw [← hW]; repeat (first | with_reducible assumption | with_reducible exact Below.refl _ _ | with_reducible apply Below.drew | (with_reducible refine Below.alloc ?_ (by first | omega | (simp only [zA, zS, zD, zN]; omega) | (dsimp only; omega) | (simp only [zA, zS, zD, zN]; dsimp only; omega)) _) | (with_reducible refine Below.setCell ?_ (by first | omega | (simp only [zA, zS, zD, zN]; omega) | (dsimp only; omega) | (simp only [zA, zS, zD, zN]; dsimp only; omega)) _) | (with_reducible apply below_drewN))
  have hz : W.heap.size = w.heap.size + 3 := by rw [← hW]; simp
  have b1 : Blk W w.heap.size #[Value.int IntKind.i64 1, Value.int IntKind.i64 a, Value.int IntKind.i64 b, Value.slice ad n cap] 43 := by rw [← hW]; exact ((Blk.new _ _ _).alloc _).alloc _
  have b2 : Blk W (w.heap.size + 1) #[Value.bool false, Value.int IntKind.i64 0, Value.slice none 0 0] 48 := by rw [← hW]; exact (show Blk _ _ _ _ by simpa using Blk.new (w.alloc (Obj.cells #[Value.int IntKind.i64 1, Value.int IntKind.i64 a, Value.int IntKind.i64 b, Value.slice ad n cap] 43)) #[Value.bool false, Value.int IntKind.i64 0, Value.slice none 0 0] 48).alloc _
  clear hW
  have c1 := b1.cell 1
  have d0 := b2.cell 0
  have d1 := b2.cell 1
  have d2 := b2.cell 2
  have u0 := b2.unfrozen 0
  have u1 := b2.unfrozen 1
  have u2 := b2.unfrozen 2
  simp only [List.getElem?_toArray, List.getElem?_cons_succ, List.getElem?_cons_zero] at c1 d0 d1 d2
  have hm : Mine w.heap.size p1 p2 g w W := (Mine.of_below hB (Nat.le_refl _))
  go_wp2_with fail
  have b3 := ((b2.set 0 (.bool false)).set 1 (.int .i64 a)).set 2 (.slice none 0 0)
  simp only [List.setIfInBounds_toArray, List.set_cons_zero, List.set_cons_succ] at b3
  have hm3 : Mine w.heap.size p1 p2 g w (((W.setCell ⟨w.heap.size + 1, 0, none⟩ (.bool false)).setCell ⟨w.heap.size + 1, 1, none⟩ (.int .i64 a)).setCell ⟨w.heap.size + 1, 2, none⟩ (.slice none 0 0)) := by
    exact ((hm.set (by omega) (by omega) (by omega) (by omega) _ _).set (by omega) (by omega) (by omega) (by omega) _ _).set (by omega) (by omega) (by omega) (by omega) _ _
  have hJ4 := C.mine hJ hm3 (by omega)
  have ho4 := (Own.refl p1 p2 g w).mine hm3 (Nat.le_refl _)
  clear d0 d1 d2 u0 u1 u2 c1
  generalize ((W.setCell ⟨w.heap.size + 1, 0, none⟩ (.bool false)).setCell ⟨w.heap.size + 1, 1, none⟩ (.int .i64 a)).setCell ⟨w.heap.size + 1, 2, none⟩ (.slice none 0 0) = W4 at *
  have d0 := b3.cell 0
  have d1 := b3.cell 1
  have d2 := b3.cell 2
  simp only [List.getElem?_toArray, List.getElem?_cons_succ, List.getElem?_cons_zero] at d0 d1 d2
  refine bodyPost_ret (v := .agg #[.bool false, .int .i64 a, .slice none 0 0]) (by simp [results, Try.results37, go_sem, d0, d1, d2]) rfl ?_
  exact ⟨_, rfl, g, hJ4, ho4, fun _ => False, fun b h => h.elim, ValIn.leaf _ _ ⟨by omega, by omega⟩⟩
theorem Own.below {lo g g' : Nat} {w w' : World} (h : Own p1 p2 g g' w w') (h1 : lo ≤ p1) (h2 : lo ≤ p2) (h3 : lo ≤ g) (hz : lo ≤ w.heap.size) : Below lo w w' :=
  ⟨h.os, h.tape, h.output, h.size, fun b hb => h.blk b (by omega) (by omega) (by omega) (by omega)⟩
theorem made_end (C : Cho B k p1 p2 st J bud) {q : σ} {g g' : Nat} {w w3 : World} (hb : B ≤ w.heap.size) (hp1 : p1 < w.heap.size) (hp2 : p2 < w.heap.size) (hg : g < w.heap.size) (hz : w.heap.size + 3 ≤ w3.heap.size) (hg3 : g' ≠ w.heap.size + 1) (hJ : J q g' w3) (ho : Own p1 p2 g g' w w3)
    {o0 o1 o2 : Value} (b2 : Blk w3 (w.heap.size + 1) #[o0, o1, o2] 48) {S : Nat → Prop} (hS : ∀ b, S b → w.heap.size ≤ b ∧ b < w3.heap.size ∧ b ≠ g' ∧ b ≠ w.heap.size + 1) {c0 c1 c2 : Value} {u : Value} {t : VT} (hv : ValIn S w3 u t) :
    Blk (((w3.setCell ⟨w.heap.size + 1, 0, none⟩ c0).setCell ⟨w.heap.size + 1, 1, none⟩ c1).setCell ⟨w.heap.size + 1, 2, none⟩ c2) (w.heap.size + 1) #[c0, c1, c2] 48 ∧
    ∃ g'', J q g'' (((w3.setCell ⟨w.heap.size + 1, 0, none⟩ c0).setCell ⟨w.heap.size + 1, 1, none⟩ c1).setCell ⟨w.heap.size + 1, 2, none⟩ c2) ∧
      Own p1 p2 g g'' w (((w3.setCell ⟨w.heap.size + 1, 0, none⟩ c0).setCell ⟨w.heap.size + 1, 1, none⟩ c1).setCell ⟨w.heap.size + 1, 2, none⟩ c2) ∧
      ∃ S : Nat → Prop, (∀ b, S b → w.heap.size ≤ b ∧ b < (((w3.setCell ⟨w.heap.size + 1, 0, none⟩ c0).setCell ⟨w.heap.size + 1, 1, none⟩ c1).setCell ⟨w.heap.size + 1, 2, none⟩ c2).heap.size ∧ b ≠ g'') ∧
        ValIn S (((w3.setCell ⟨w.heap.size + 1, 0, none⟩ c0).setCell ⟨w.heap.size + 1, 1, none⟩ c1).setCell ⟨w.heap.size + 1, 2, none⟩ c2) u t := by
  have b3 := ((b2.set 0 c0).set 1 c1).set 2 c2
  simp only [List.setIfInBounds_toArray, List.set_cons_zero, List.set_cons_succ] at b3
  have hm3 : Mine w.heap.size p1 p2 g' w3 (((w3.setCell ⟨w.heap.size + 1, 0, none⟩ c0).setCell ⟨w.heap.size + 1, 1, none⟩ c1).setCell ⟨w.heap.size + 1, 2, none⟩ c2) := by
    exact (((Mine.refl _ _ _ _ _).set (by omega) (by omega) (by omega) (by omega) _ _).set (by omega) (by omega) (by omega) (by omega) _ _).set (by omega) (by omega) (by omega) (by omega) _ _
  have hkeep : ∀ b, b ≠ w.heap.size + 1 → (((w3.setCell ⟨w.heap.size + 1, 0, none⟩ c0).setCell ⟨w.heap.size + 1, 1, none⟩ c1).setCell ⟨w.heap.size + 1, 2, none⟩ c2).heap[b]? = w3.heap[b]? := by
    intro b hb
    rw [Below.heap_setCell _ _ _ _ hb, Below.heap_setCell _ _ _ _ hb, Below.heap_setCell _ _ _ _ hb]
  refine ⟨b3, g', C.mine hJ hm3 hb, ho.mine hm3 (Nat.le_refl _), S, fun b h => ?_, hv.keep (by simp only [size_setCell]; exact Nat.le_refl _) (fun b h hl => ⟨h, hkeep b (hS b h).2.2.2⟩)⟩
  have := hS b h
  simp only [size_setCell]
  omega
theorem playI_get (st : Int → σ → Except Int (Int × σ)) (s : List GT) : ∀ (i : Nat) (h : i < s.length) (q : σ), GT.playI st s i q = GT.play st s[i] q := by
  induction s with
  | nil => intro i h; simp at h
  | cons x s ih =>
    intro i h q
    cases i with
    | zero => rfl
    | succ i => exact ih i (by simpa using h) q
set_option maxHeartbeats 4000000 in
theorem made_5 (C : Cho B k p1 p2 st J bud) (w0 : World) (h0B : w0.heap.size ≤ B) (q : σ) (g : Nat) (w : World) (hJ : J q g w) (hw0 : Below w0.heap.size w0 w) (a b : Int) (ad : Option Addr) (cap : Nat) (s : List GT) (hs : GensAt w0 ad s) (hs0 : s.length ≠ 0) (hs1 : s.length ≤ 1000) (hbq : 1 + GT.costL s ≤ bud q)
   (IH : ∀ x ∈ s, ∀ q g w v, GT.cost x ≤ bud q → J q g w → Below w0.heap.size w0 w → GenAt w0 v x → Calls Try.prog 37 #[.func (.func k) #[] #[.pointer (some ⟨p1, 0, none⟩), .pointer (some ⟨p2, 0, none⟩)], v] w (Md w.heap.size p1 p2 J (GT.play st x q) g w)) :
   Calls Try.prog 37 #[.func (.func k) #[] #[.pointer (some ⟨p1, 0, none⟩), .pointer (some ⟨p2, 0, none⟩)], .agg #[.int .i64 5, .int .i64 a, .int .i64 b, .slice ad s.length cap]] w (Md w.heap.size p1 p2 J (GT.play st (.mk 5 a b s) q) g w) := by
  have hk := C.enter
  have HH := Lib.hid (C.call ((s.length : Int) - 1) q g)
  have hlt := C.lt q g w hJ
  have HP : Hid (GT.play st (.mk 5 a b s) q = match st ((s.length : Int) - 1) q with
      | .error e => .error e
      | .ok (c, q) => GT.playI st s c.toNat q) := by show _ = _; simp only [GT.play, if_pos (rfl : (5:Int) = 5), show ¬ ((5:Int) = 1) by decide, show ¬ ((5:Int) = 2) by decide, show ¬ ((5:Int) = 3) by decide, show ¬ ((5:Int) = 4) by decide, if_false]; rfl
  rw [HP.out]
  have HBD := Lib.hid (C.bd ((s.length : Int) - 1) q)
  have HBB := Lib.hid (C.bdd ((s.length : Int) - 1) q)
  have IHH := Lib.hid IH
  clear IH
  generalize hR : st ((s.length : Int) - 1) q = R at *
  clear HP
  go_enter Try.func37, Try.ntmps37
  go_wp2_with fail
  generalize hW : ((w.alloc (Obj.cells #[Value.int IntKind.i64 5, Value.int IntKind.i64 a, Value.int IntKind.i64 b, Value.slice ad s.length cap] 43)).alloc
      (Obj.cells #[Value.bool false, Value.int IntKind.i64 0, Value.slice none 0 0] 48)).alloc (Obj.cells #[Value.bool true, Value.int IntKind.i64 0, Value.slice none 0 0] 48) = W
  have hB : Below w.heap.size w W := by rw [← hW]; repeat (first | with_reducible assumption | with_reducible exact Below.refl _ _ | with_reducible apply Below.drew | (with_reducible refine Below.alloc ?_ (by first | omega | (simp only [zA, zS, zD, zN]; omega) | (dsimp only; omega) | (simp only [zA, zS, zD, zN]; dsimp only; omega)) _) | (with_reducible refine Below.setCell ?_ (by first | omega | (simp only [zA, zS, zD, zN]; omega) | (dsimp only; omega) | (simp only [zA, zS, zD, zN]; dsimp only; omega)) _) | (with_reducible apply below_drewN))
  have hz : W.heap.size = w.heap.size + 3 := by rw [← hW]; simp
  have b1 : Blk W w.heap.size #[Value.int IntKind.i64 5, Value.int IntKind.i64 a, Value.int IntKind.i64 b, Value.slice ad s.length cap] 43 := by rw [← hW]; exact ((Blk.new _ _ _).alloc _).alloc _
  have b2 : Blk W (w.heap.size + 1) #[Value.bool false, Value.int IntKind.i64 0, Value.slice none 0 0] 48 := by rw [← hW]; exact (show Blk _ _ _ _ by simpa using Blk.new (w.alloc (Obj.cells #[Value.int IntKind.i64 5, Value.int IntKind.i64 a, Value.int IntKind.i64 b, Value.slice ad s.length cap] 43)) #[Value.bool false, Value.int IntKind.i64 0, Value.slice none 0 0] 48).alloc _
  clear hW
  have c1 := b1.cell 3
  simp only [List.getElem?_toArray, List.getElem?_cons_succ, List.getElem?_cons_zero] at c1
  refine region_take (S := fun w' => w'.cell? ⟨w.heap.size, 3, none⟩ = some (.slice ad s.length cap)) (n := 12) (takes := [0, 1, 2, 3, 4, 5, 6, 7]) (rest := [8, 9, 10, 11, 12]) (hm := by kernel_rfl) (hB := by kernel_rfl) (hQ := fun c a d v w h => by cases d <;> exact h) (hS := c1) ?_
  iterate 8
    rw [takeT_eq]
    simp only [List.getElem?_toArray, List.getElem?_cons_succ, List.getElem?_cons_zero]
    refine ⟨?_, .inl ⟨by rfl, ?_⟩, ?_⟩
    rotate_left
    · rintro w' s1
      go_simp
      rfl
    simp only [Act.put, List.setIfInBounds_toArray, List.set_cons_zero, List.set_cons_succ]
  have hm : Mine w.heap.size p1 p2 g w W.drew := (Mine.of_below hB (Nat.le_refl _)).drew
  have hJ2 := C.mine hJ hm (by omega)
  have b2' : Blk W.drew (w.heap.size + 1) #[Value.bool false, Value.int IntKind.i64 0, Value.slice none 0 0] 48 := b2
  have b1' : Blk W.drew w.heap.size #[Value.int IntKind.i64 5, Value.int IntKind.i64 a, Value.int IntKind.i64 b, Value.slice ad s.length cap] 43 := b1
  have hz2 : W.drew.heap.size = w.heap.size + 3 := hz
  have hw2 : Below w0.heap.size w0 W.drew := hw0.trans (hm.below.mono hw0.size)
  clear b1 b2 c1
  generalize W.drew = W2 at *
  have hz0 := hw0.size
  rw [wpTakeT]
  rw [seqT_eq]
  simp only [List.getElem?_toArray, List.getElem?_cons_succ, List.getElem?_cons_zero]
  go_wp2_with fail
  refine (HH.out W2 (by omega) (by omega) (by omega) hJ2).mono ?_
  rintro e w3 he
  cases R with
  | error x =>
    obtain ⟨rfl, g', ho⟩ := he
    have fin : ([] : List Deferred) = [] ∧ Md w.heap.size p1 p2 J (.error x) g w (.panicked [{ v := .iface 36 (.int .i64 x), recovered := false }]) w3 := ⟨rfl, rfl, g', ((Own.refl _ _ _ _).mine hm (Nat.le_refl _)).trans ho⟩
    exact fin
  | ok r =>
    obtain ⟨c, q'⟩ := r
    obtain ⟨rfl, g', hJ3, ho⟩ := he
    have hc := HBD.out c q' (by omega) rfl
    obtain ⟨i, rfl⟩ := Int.eq_ofNat_of_zero_le hc.1
    have hi : i < s.length := by omega
    have hbb := HBB.out _ q' (by omega) rfl
    have hcx := GT.cost_le s i hi
    have b1 : Blk w3 w.heap.size #[Value.int IntKind.i64 5, Value.int IntKind.i64 a, Value.int IntKind.i64 b, Value.slice ad s.length cap] 43 := (ho.blk _ (by omega) (by omega) (by omega) (by omega)).trans b1'
    have b2 : Blk w3 (w.heap.size + 1) #[Value.bool false, Value.int IntKind.i64 0, Value.slice none 0 0] 48 := (ho.blk _ (by omega) (by omega) (by omega) (by omega)).trans b2'
    have hz3 := ho.size
    have hw3 : Below w0.heap.size w0 w3 := hw2.trans (ho.below (by omega) (by omega) (by omega) (by omega))
    obtain ⟨bl, off, rfl, hbl, hc2⟩ := hs.at' (by omega)
    obtain ⟨k2, a2, b2', t2, ad2, cap2, e0, e1, e2, e3, hg2⟩ := hc2 i hi
    have f0 := (hw3.cell (p := ⟨bl, _, none⟩) hbl).trans e0
    have f1 := (hw3.cell (p := ⟨bl, _, none⟩) hbl).trans e1
    have f2 := (hw3.cell (p := ⟨bl, _, none⟩) hbl).trans e2
    have f3 := (hw3.cell (p := ⟨bl, _, none⟩) hbl).trans e3
    clear e0 e1 e2 e3 hc2
    have c1 := b1.cell 3
    simp only [List.getElem?_toArray, List.getElem?_cons_succ, List.getElem?_cons_zero] at c1
    have HI := Lib.hid (IHH.out s[i] (List.getElem_mem hi) q' g' w3 _ (by omega) hJ3 hw3 hg2)
    have HE : Hid (GT.playI st s (Int.toNat (i : Int)) q' = GT.play st s[i] q') := by show _ = _; rw [Int.toNat_natCast]; exact playI_get st s i hi q'
    generalize hR2 : GT.play st s[i] q' = R2 at *
    have p0 : (0 : Int) ≤ (i : Int) := by omega
    have p1' : (i : Int) < (s.length : Int) := by omega
    clear hg2
    go_wp2_with fail
    refine And.intro (fun _ => c1) ?_
    rw [seqT_eq]
    simp only [List.getElem?_toArray, List.getElem?_cons_succ, List.getElem?_cons_zero]
    go_wp2_with fail
    refine And.intro (fun _ => c1) ?_
    rw [seqT_eq]
    simp only [List.getElem?_toArray, List.getElem?_cons_succ, List.getElem?_cons_zero]
    go_wp2_with fail
    refine And.intro (fun _ => c1) ?_
    rw [seqT_eq]
    simp only [List.getElem?_toArray, List.getElem?_cons_succ, List.getElem?_cons_zero]
    go_wp2_with fail
    refine HI.out.mono ?_
    rintro e w4 he
    cases R2 with
    | error x =>
      obtain ⟨rfl, g2, ho2⟩ := he
      have fin : ([] : List Deferred) = [] ∧ Md w.heap.size p1 p2 J (GT.playI st s (Int.toNat (i : Int)) q') g w (.panicked [{ v := .iface 36 (.int .i64 x), recovered := false }]) w4 := by
        rw [HE.out]; exact ⟨rfl, rfl, g2, (((Own.refl _ _ _ _).mine hm (Nat.le_refl _)).trans ho).trans ho2⟩
      exact fin
    | ok r =>
      obtain ⟨t, q2⟩ := r
      obtain ⟨u, rfl, g2, hJ4, ho2, S, hS, hv⟩ := he
      obtain ⟨l5, n5, k5, ad5, cap5, rfl⟩ := hv.shape
      have hg := ho.new
      have hg2 := ho2.new
      have hl3 := C.lt _ _ _ hJ3
      have hz4 := ho2.size
      have b3 : Blk w4 w.heap.size #[Value.int IntKind.i64 5, Value.int IntKind.i64 a, Value.int IntKind.i64 b, Value.slice (some ⟨bl, off, none⟩) s.length cap] 43 := (ho2.blk _ (by omega) (by omega) (by omega) (by omega)).trans b1
      have b4 : Blk w4 (w.heap.size + 1) #[Value.bool false, Value.int IntKind.i64 0, Value.slice none 0 0] 48 := (ho2.blk _ (by omega) (by omega) (by omega) (by omega)).trans b2
      clear c1
      have c1 := b3.cell 3
      have d0 := b4.cell 0
      have d1 := b4.cell 1
      have d2 := b4.cell 2
      have u0 := b4.unfrozen 0
      have u1 := b4.unfrozen 1
      have u2 := b4.unfrozen 2
      simp only [List.getElem?_toArray, List.getElem?_cons_succ, List.getElem?_cons_zero] at c1 d0 d1 d2
      go_wp2_with fail
      refine And.intro (fun _ => c1) ?_
      rw [seqT_eq]
      simp only [List.getElem?_toArray, List.getElem?_cons_succ, List.getElem?_cons_zero]
      go_wp2_with fail
      refine And.intro (fun h => absurd h (Nat.lt_irrefl _)) ?_
      rw [wpSeqT]
      go_wp2_with fail
      obtain ⟨b5, hfin⟩ := made_end C (by omega) (by omega) (by omega) (by omega) (by omega) (by omega) hJ4 ((((Own.refl _ _ _ _).mine hm (Nat.le_refl _)).trans ho).trans ho2) b4 (fun b h => by have := hS b h; omega) (c0 := .bool l5) (c1 := .int .i64 n5) (c2 := .slice ad5 k5 cap5) hv
      clear d0 d1 d2 u0 u1 u2 c1
      generalize (((w4.setCell ⟨w.heap.size + 1, 0, none⟩ (.bool l5)).setCell ⟨w.heap.size + 1, 1, none⟩ (.int .i64 n5)).setCell ⟨w.heap.size + 1, 2, none⟩ (.slice ad5 k5 cap5)) = W4 at *
      have d0 := b5.cell 0
      have d1 := b5.cell 1
      have d2 := b5.cell 2
      simp only [List.getElem?_toArray, List.getElem?_cons_succ, List.getElem?_cons_zero] at d0 d1 d2
      refine bodyPost_ret (v := .agg #[.bool l5, .int .i64 n5, .slice ad5 k5 cap5]) (by simp [results, Try.results37, go_sem, d0, d1, d2]) rfl ?_
      have hEE : GT.playI st s i q' = .ok (t, q2) := HE.out
      rw [hEE]
      exact ⟨_, rfl, hfin⟩

end
end Go.Proofs.Ytocngjpjheockaa
namespace Go.Proofs.Ytocngjpjheockaa
set_option maxRecDepth 100000
open Go.RowKit
set_option linter.unusedSimpArgs false
set_option linter.unusedVariables false
/-- The items that are made: a slice of the call's own, its elements, where they lie. -/
structure Items (w : World) (lo : Nat) (S : Nat → Prop) (iv : Value) (cs : List Value) (ts : List VT) : Prop where
  own : w.ownsRow lo 48 3 iv ts.length cs
  free : ∀ b, S b → iv.ownBlock ≠ some b
  at' : ∀ i (h : i < ts.length), ∃ c0 c1 c2, cs[i * 3]? = some c0 ∧ cs[i * 3 + 1]? = some c1 ∧ cs[i * 3 + 2]? = some c2 ∧ ValIn S w (.agg #[c0, c1, c2]) ts[i]
theorem info_value : ∃ i, (Try.prog.info? 48) = some i ∧ i.zero = some (.agg #[.bool false, .int .i64 0, .slice none 0 0]) ∧ i.size = 3 ∧ i.bytes = 40 := by
  refine ⟨_, rfl, ?_⟩
  refine ⟨by kernel_rfl, by kernel_rfl, by kernel_rfl⟩
theorem Items.nil (w : World) (lo : Nat) : Items w lo (fun _ => False) (.slice none 0 0) [] [] := ⟨World.ownsRow_nil _ _ _ _, fun _ h => h.elim, fun i h => absurd h (by simp)⟩
theorem Items.keep {w w' : World} {lo : Nat} {S : Nat → Prop} {iv : Value} {cs : List Value} {ts : List VT} (h : Items w lo S iv cs ts) (hz : w.heap.size ≤ w'.heap.size)
    (hS : ∀ b, S b → b < w.heap.size → w'.heap[b]? = w.heap[b]?) (hI : ∀ b, iv.ownBlock = some b → b < w.heap.size → w'.heap[b]? = w.heap[b]?) : Items w' lo S iv cs ts := by
  refine ⟨⟨h.own.1, ?_⟩, h.free, fun i hi => ?_⟩
  · rcases h.own.2 with h2 | ⟨g, cap, cur, hv, hg, hh, r⟩
    · exact .inl h2
    · have hlt : g < w.heap.size := (Array.getElem?_eq_some_iff.1 hh).1
      exact .inr ⟨g, cap, cur, hv, hg, (hI g (by rw [hv]; rfl) hlt).trans hh, r⟩
  · obtain ⟨c0, c1, c2, h0, h1, h2, hv⟩ := h.at' i hi
    exact ⟨c0, c1, c2, h0, h1, h2, hv.keep hz (fun b hb hl => ⟨hb, hS b hb hl⟩)⟩
theorem Items.lt {w : World} {lo : Nat} {S : Nat → Prop} {iv : Value} {cs : List Value} {ts : List VT} (h : Items w lo S iv cs ts) : ∀ b, iv.ownBlock = some b → lo ≤ b ∧ b < w.heap.size := fun b hb => World.ownsRow.lt h.own b hb
/-- What they make up as a list. -/
theorem Items.val {w : World} {lo : Nat} {S : Nat → Prop} {iv : Value} {cs : List Value} {ts : List VT} (h : Items w lo S iv cs ts) : ValIn (fun b => S b ∨ iv.ownBlock = some b) w (.agg #[.bool true, .int .i64 0, iv]) (.mk true 0 ts) := by
  rcases h.own.2 with ⟨rfl, h0⟩ | ⟨g, cap, cur, rfl, hg, hh, hn, hm, hcs, htake⟩
  · have : ts = [] := List.length_eq_zero_iff.1 h0
    subst this
    exact ValIn.leaf _ _ ⟨by omega, by omega⟩
  · have hch : ∀ i : Nat, ∃ v : Value, ∀ hi : i < ts.length, (∃ c0 c1 c2, v = .agg #[c0, c1, c2] ∧ cs[i * 3]? = some c0 ∧ cs[i * 3 + 1]? = some c1 ∧ cs[i * 3 + 2]? = some c2) ∧ ValIn S w v ts[i] := by
      intro i
      by_cases hi : i < ts.length
      · obtain ⟨c0, c1, c2, h0, h1, h2, hv⟩ := h.at' i hi
        exact ⟨_, fun _ => ⟨⟨_, _, _, rfl, h0, h1, h2⟩, hv⟩⟩
      · exact ⟨.nilIface, fun h => absurd h hi⟩
    have hcell : ∀ o c, cs[o]? = some c → w.cell? ⟨g, o, none⟩ = some c := by
      intro o c ho
      rw [cell_of_row w g o cur 48 (0, 0) hh]
      rw [← htake] at ho
      have hlt : o < (cur.toList.take (ts.length * 3)).length := (List.getElem?_eq_some_iff.1 ho).1
      rw [List.getElem?_take] at ho
      split at ho
      · simpa using ho
      · simp at ho
    refine .mk ⟨by omega, by omega⟩ hn (by unfold maxLen at hm; exact hm) (fun i => (hch i).choose) (fun _ => ⟨g, 0, rfl, (Array.getElem?_eq_some_iff.1 hh).1, .inr rfl, fun i hi => ?_⟩) (fun i hi => ((hch i).choose_spec hi).2.keep (Nat.le_refl _) (fun b hb _ => ⟨.inl hb, rfl⟩))
    obtain ⟨⟨c0, c1, c2, e, h0, h1, h2⟩, _⟩ := (hch i).choose_spec hi
    rw [Nat.zero_add]
    exact ⟨c0, c1, c2, e, hcell _ _ h0, hcell _ _ h1, hcell _ _ h2⟩
/-- One more. -/
theorem Items.push {w w' : World} {lo : Nat} {S : Nat → Prop} {iv iv' : Value} {cs : List Value} {ts : List VT} {c0 c1 c2 : Value} {t : VT} (h : Items w lo S iv cs ts)
    (hown : w'.ownsRow lo 48 3 iv' (ts.length + 1) (cs ++ [c0, c1, c2])) (hg : w.grownBy w' iv.ownBlock) (hat : iv'.ownBlock = iv.ownBlock ∨ iv'.ownBlock = some w.heap.size) (hSlt : ∀ b, S b → b < w.heap.size)
    {S2 : Nat → Prop} (hS2 : ∀ b, S2 b → b < w.heap.size ∧ iv.ownBlock ≠ some b) (hv : ValIn S2 w (.agg #[c0, c1, c2]) t) : Items w' lo (fun b => S b ∨ S2 b) iv' (cs ++ [c0, c1, c2]) (ts ++ [t]) := by
  have hcl : cs.length = ts.length * 3 := h.own.1
  refine ⟨by simpa using hown, fun b hb => ?_, fun i hi => ?_⟩
  · rcases hat with e | e
    · rw [e]
      rcases hb with hb | hb
      · exact h.free b hb
      · exact (hS2 b hb).2
    · rw [e]
      intro e2
      have e2 := Option.some.inj e2
      rcases hb with hb | hb
      · have := hSlt b hb; omega
      · have := (hS2 b hb).1; omega
  · by_cases hlt : i < ts.length
    · obtain ⟨d0, d1, d2, e0, e1, e2, hv⟩ := h.at' i hlt
      refine ⟨d0, d1, d2, ?_, ?_, ?_, ?_⟩
      · rw [List.getElem?_append_left (by omega)]; exact e0
      · rw [List.getElem?_append_left (by omega)]; exact e1
      · rw [List.getElem?_append_left (by omega)]; exact e2
      · rw [List.getElem_append_left hlt]
        exact hv.keep hg.size (fun b hb hl => ⟨.inl hb, hg.block b hl (fun e => h.free b hb e.symm)⟩)
    · have hi2 : i = ts.length := by simp at hi; omega
      subst hi2
      refine ⟨c0, c1, c2, ?_, ?_, ?_, ?_⟩
      · rw [List.getElem?_append_right (by omega), show ts.length * 3 - cs.length = 0 by omega]; rfl
      · rw [List.getElem?_append_right (by omega), show ts.length * 3 + 1 - cs.length = 1 by omega]; rfl
      · rw [List.getElem?_append_right (by omega), show ts.length * 3 + 2 - cs.length = 2 by omega]; rfl
      · rw [List.getElem_append_right (by omega)]
        simp only [Nat.sub_self, List.getElem_cons_zero]
        exact hv.keep hg.size (fun b hb hl => ⟨.inr hb, hg.block b hl (fun e => (hS2 b hb).2 e.symm)⟩)
end Go.Proofs.Ytocngjpjheockaa
namespace Go.Proofs.Ytocngjpjheockaa
set_option maxRecDepth 100000
open Go.RowKit
set_option linter.unusedSimpArgs false
set_option linter.unusedVariables false
section
variable {σ : Type} {B k p1 p2 : Nat} {st : Int → σ → Except Int (Int × σ)} {J : σ → Nat → World → Prop} {bud : σ → Nat}
theorem Items.shape {w : World} {lo : Nat} {S : Nat → Prop} {iv : Value} {cs : List Value} {ts : List VT} (h : Items w lo S iv cs ts) : ∃ ad cap, iv = .slice ad ts.length cap := by
  rcases h.own.2 with ⟨rfl, h0⟩ | ⟨g, cap, cur, rfl, _⟩
  · exact ⟨none, 0, by rw [h0]⟩
  · exact ⟨_, _, rfl⟩
/-- These ahead of what is made. -/
def app (ts : List VT) (r : Except Int (List VT × σ)) : Except Int (List VT × σ) := match r with
  | .error e => .error e
  | .ok (l, q) => .ok (ts ++ l, q)
def asList (r : Except Int (List VT × σ)) : Except Int (VT × σ) := match r with
  | .error e => .error e
  | .ok (l, q) => .ok (.mk true 0 l, q)
theorem app_nil (r : Except Int (List VT × σ)) : app [] r = r := by cases r <;> rfl
theorem playL_ok (st : Int → σ → Except Int (Int × σ)) (s : List GT) (j : Nat) (h : j < s.length) (q q' : σ) (v : VT) (ts : List VT) (e : GT.play st s[j] q = .ok (v, q')) :
    app ts (GT.playL st (s.drop j) q) = app (ts ++ [v]) (GT.playL st (s.drop (j + 1)) q') := by
  rw [List.drop_eq_getElem_cons h]
  simp only [GT.playL, e]
  cases GT.playL st (s.drop (j + 1)) q' <;> simp [app]
theorem playL_err (st : Int → σ → Except Int (Int × σ)) (s : List GT) (j : Nat) (h : j < s.length) (q : σ) (x : Int) (ts : List VT) (e : GT.play st s[j] q = .error x) :
    app ts (GT.playL st (s.drop j) q) = .error x := by
  rw [List.drop_eq_getElem_cons h]
  simp only [GT.playL, e]
  rfl
set_option maxHeartbeats 8000000 in
theorem made_3 (C : Cho B k p1 p2 st J bud) (w0 : World) (h0B : w0.heap.size ≤ B) (q : σ) (g : Nat) (w : World) (hJ : J q g w) (hw0 : Below w0.heap.size w0 w) (a b : Int) (ad : Option Addr) (cap : Nat) (s : List GT) (hs : GensAt w0 ad s) (hs1 : s.length ≤ 1000) (hbq : GT.costL s ≤ bud q) (hpb : ∀ x ∈ s, ∀ q t q', GT.play st x q = .ok (t, q') → bud q ≤ bud q' + GT.cost x)
   (IH : ∀ x ∈ s, ∀ q g w v, GT.cost x ≤ bud q → J q g w → Below w0.heap.size w0 w → GenAt w0 v x → Calls Try.prog 37 #[.func (.func k) #[] #[.pointer (some ⟨p1, 0, none⟩), .pointer (some ⟨p2, 0, none⟩)], v] w (Md w.heap.size p1 p2 J (GT.play st x q) g w)) :
   Calls Try.prog 37 #[.func (.func k) #[] #[.pointer (some ⟨p1, 0, none⟩), .pointer (some ⟨p2, 0, none⟩)], .agg #[.int .i64 3, .int .i64 a, .int .i64 b, .slice ad s.length cap]] w (Md w.heap.size p1 p2 J (GT.play st (.mk 3 a b s) q) g w) := by
  have hlt := C.lt q g w hJ
  have HP : Hid (GT.play st (.mk 3 a b s) q = asList (app [] (GT.playL st (s.drop 0) q))) := by show _ = _; rw [app_nil]; simp [GT.play]; rfl
  rw [HP.out]
  have IHH := Lib.hid IH
  clear IH HP
  have hSR : Hid (app [] (GT.playL st (s.drop 0) q) = app [] (GT.playL st (s.drop 0) q)) := rfl
  generalize hR : app [] (GT.playL st (s.drop 0) q) = R
  have HR0 := Lib.hid hR
  clear hR hSR
  go_enter Try.func37, Try.ntmps37
  go_upto_region 8 with (fail)
  generalize hW : ((w.alloc (Obj.cells #[Value.int IntKind.i64 3, Value.int IntKind.i64 a, Value.int IntKind.i64 b, Value.slice ad s.length cap] 43)).alloc
      (Obj.cells #[Value.bool false, Value.int IntKind.i64 0, Value.slice none 0 0] 48)).alloc (Obj.cells #[Value.bool true, Value.int IntKind.i64 0, Value.slice none 0 0] 48) = W
  have hB : Below w.heap.size w W := by rw [← hW]; repeat (first | with_reducible assumption | with_reducible exact Below.refl _ _ | with_reducible apply Below.drew | (with_reducible refine Below.alloc ?_ (by first | omega | (simp only [zA, zS, zD, zN]; omega) | (dsimp only; omega) | (simp only [zA, zS, zD, zN]; dsimp only; omega)) _) | (with_reducible refine Below.setCell ?_ (by first | omega | (simp only [zA, zS, zD, zN]; omega) | (dsimp only; omega) | (simp only [zA, zS, zD, zN]; dsimp only; omega)) _) | (with_reducible apply below_drewN))
  have hz : W.heap.size = w.heap.size + 3 := by rw [← hW]; simp
  have b1 : Blk W w.heap.size #[Value.int IntKind.i64 3, Value.int IntKind.i64 a, Value.int IntKind.i64 b, Value.slice ad s.length cap] 43 := by rw [← hW]; exact ((Blk.new _ _ _).alloc _).alloc _
  have b2 : Blk W (w.heap.size + 1) #[Value.bool false, Value.int IntKind.i64 0, Value.slice none 0 0] 48 := by rw [← hW]; exact (show Blk _ _ _ _ by simpa using Blk.new (w.alloc (Obj.cells #[Value.int IntKind.i64 3, Value.int IntKind.i64 a, Value.int IntKind.i64 b, Value.slice ad s.length cap] 43)) #[Value.bool false, Value.int IntKind.i64 0, Value.slice none 0 0] 48).alloc _
  have b3 : Blk W (w.heap.size + 2) #[Value.bool true, Value.int IntKind.i64 0, Value.slice none 0 0] 48 := by rw [← hW]; exact (show Blk _ _ _ _ by simpa using Blk.new ((w.alloc (Obj.cells #[Value.int IntKind.i64 3, Value.int IntKind.i64 a, Value.int IntKind.i64 b, Value.slice ad s.length cap] 43)).alloc (Obj.cells #[Value.bool false, Value.int IntKind.i64 0, Value.slice none 0 0] 48)) #[Value.bool true, Value.int IntKind.i64 0, Value.slice none 0 0] 48)
  clear hW
  have c1 := b1.cell 3
  simp only [List.getElem?_toArray, List.getElem?_cons_succ, List.getElem?_cons_zero] at c1
  have hm : Mine w.heap.size p1 p2 g w W := (Mine.of_below hB (Nat.le_refl _))
  have hJ2 := C.mine hJ hm (by omega)
  have hw2 : Below w0.heap.size w0 W := hw0.trans (hm.below.mono hw0.size)
  have hz0 := hw0.size
  go_wp2_with fail
  go_loopw [34] (fun i wr => ∃ (j : Nat) (qr : σ) (gr : Nat) (S : Nat → Prop) (iv : Value) (cs : List Value) (ts : List VT), j ≤ s.length ∧ ts.length = j ∧ i = .int .i64 j ∧ J qr gr wr ∧ Own p1 p2 g gr w wr ∧ w.heap.size + 3 ≤ wr.heap.size ∧
    Blk wr (w.heap.size + 1) #[Value.bool false, Value.int IntKind.i64 0, Value.slice none 0 0] 48 ∧ Blk wr (w.heap.size + 2) #[Value.bool true, Value.int IntKind.i64 0, iv] 48 ∧ gr ≠ w.heap.size + 1 ∧ gr ≠ w.heap.size + 2 ∧
    Items wr (w.heap.size + 3) S iv cs ts ∧ (∀ b, S b → w.heap.size + 3 ≤ b ∧ b < wr.heap.size ∧ b ≠ gr) ∧ (iv.ownBlock ≠ some gr) ∧ GT.costL (s.drop j) ≤ bud qr ∧
    Hid (app ts (GT.playL st (s.drop j) qr) = R)) (fun i _ => s.length - (intOf i).toNat)
  case atStart =>
    exact ⟨0, q, g, fun _ => False, .slice none 0 0, [], [], by omega, rfl, rfl, hJ2, (Own.refl _ _ _ _).mine hm (Nat.le_refl _), by omega, b2, b3, by omega, by omega, Items.nil _ _, fun b h => h.elim, by simp [Value.ownBlock], hbq, HR0⟩
  case round =>
    obtain ⟨j, qr, gr, S, iv, cs, ts, hj, htl, rfl, hJr, hor, hzr, bb2, bb3, hg1, hg2, hit, hS, hivg, hcb, HE⟩ := hrel
    have hlr := C.lt _ _ _ hJr
    have hgn := hor.new
    by_cases hlt2 : j < s.length
    · have p0 : (0 : Int) ≤ (j : Int) := by omega
      have p1' : (j : Int) < (s.length : Int) := by omega
      obtain ⟨bl, off, rfl, hbl, hc2⟩ := hs.at' (by omega)
      obtain ⟨k2, a2, b2', t2, ad2, cap2, e0, e1, e2, e3, hgk⟩ := hc2 j hlt2
      have hwr : Below w0.heap.size w0 wr := hw0.trans (hor.below (by omega) (by omega) (by omega) (by omega))
      have f0 := (hwr.cell (p := ⟨bl, _, none⟩) hbl).trans e0
      have f1 := (hwr.cell (p := ⟨bl, _, none⟩) hbl).trans e1
      have f2 := (hwr.cell (p := ⟨bl, _, none⟩) hbl).trans e2
      have f3 := (hwr.cell (p := ⟨bl, _, none⟩) hbl).trans e3
      clear e0 e1 e2 e3 hc2
      rw [GT.costL_drop s j hlt2] at hcb
      have hpb2 := Lib.hid (hpb s[j] (List.getElem_mem hlt2) qr)
      have HI := Lib.hid (fun W (h : J qr gr W) (h2 : Below w0.heap.size w0 W) => IHH.out s[j] (List.getElem_mem hlt2) qr gr W _ (by omega) h h2 hgk)
      clear hgk
      go_wp2_with fail
      have hm1 : Mine (w.heap.size + 3) p1 p2 gr wr (wr.alloc (.cells #[.int .i64 k2, .int .i64 a2, .int .i64 b2', .slice ad2 t2 cap2] 43)).drew := (Mine.of_below (by repeat (first | with_reducible assumption | with_reducible exact Below.refl _ _ | with_reducible apply Below.drew | (with_reducible refine Below.alloc ?_ (by first | omega | (simp only [zA, zS, zD, zN]; omega) | (dsimp only; omega) | (simp only [zA, zS, zD, zN]; dsimp only; omega)) _) | (with_reducible refine Below.setCell ?_ (by first | omega | (simp only [zA, zS, zD, zN]; omega) | (dsimp only; omega) | (simp only [zA, zS, zD, zN]; dsimp only; omega)) _) | (with_reducible apply below_drewN))) hzr).drew
      have x1 : Blk (wr.alloc (.cells #[.int .i64 k2, .int .i64 a2, .int .i64 b2', .slice ad2 t2 cap2] 43)).drew wr.heap.size #[.int .i64 k2, .int .i64 a2, .int .i64 b2', .slice ad2 t2 cap2] 43 := Blk.new _ _ _
      have hzx : (wr.alloc (.cells #[.int .i64 k2, .int .i64 a2, .int .i64 b2', .slice ad2 t2 cap2] 43)).drew.heap.size = wr.heap.size + 1 := by simp [size_drew]
      have y2 : Blk (wr.alloc (.cells #[.int .i64 k2, .int .i64 a2, .int .i64 b2', .slice ad2 t2 cap2] 43)).drew (w.heap.size + 1) #[Value.bool false, Value.int IntKind.i64 0, Value.slice none 0 0] 48 := bb2.alloc _
      have y3 : Blk (wr.alloc (.cells #[.int .i64 k2, .int .i64 a2, .int .i64 b2', .slice ad2 t2 cap2] 43)).drew (w.heap.size + 1 + 1) #[Value.bool true, Value.int IntKind.i64 0, iv] 48 := bb3.alloc _
      have hit1 : Items (wr.alloc (.cells #[.int .i64 k2, .int .i64 a2, .int .i64 b2', .slice ad2 t2 cap2] 43)).drew (w.heap.size + 3) S iv cs ts := hit.keep (by omega) (fun b _ hb => Below.heap_alloc wr _ b hb) (fun b _ hb => Below.heap_alloc wr _ b hb)
      have s0 := x1.cell 0
      have s1 := x1.cell 1
      have s2 := x1.cell 2
      have s3 := x1.cell 3
      have s4 := y3.cell 2
      simp only [List.getElem?_toArray, List.getElem?_cons_succ, List.getElem?_cons_zero] at s0 s1 s2 s3 s4
      refine region_take (S := fun w' => w'.cell? ⟨wr.heap.size, 0, none⟩ = some (.int .i64 k2) ∧ w'.cell? ⟨wr.heap.size, 1, none⟩ = some (.int .i64 a2) ∧ w'.cell? ⟨wr.heap.size, 2, none⟩ = some (.int .i64 b2') ∧ w'.cell? ⟨wr.heap.size, 3, none⟩ = some (.slice ad2 t2 cap2) ∧ w'.cell? ⟨w.heap.size + 1 + 1, 2, none⟩ = some iv) (n := 7) (takes := [0, 1, 2, 3]) (rest := [4, 5, 6, 7, 8]) (hm := by kernel_rfl) (hB := by kernel_rfl) (hQ := fun c a d v w h => by cases d <;> exact h) (hS := ⟨s0, s1, s2, s3, s4⟩) ?_
      iterate 4
        rw [takeT_eq]
        simp only [List.getElem?_toArray, List.getElem?_cons_succ, List.getElem?_cons_zero]
        refine ⟨?_, .inl ⟨by rfl, ?_⟩, ?_⟩
        rotate_left
        · rintro w' ⟨s0, s1, s2, s3, s4⟩
          go_simp
          rfl
        simp only [Act.put, List.setIfInBounds_toArray, List.set_cons_zero, List.set_cons_succ]
      have hJ3 := C.mine hJr hm1 (by omega)
      have ho1 := hor.mine hm1 (by omega)
      clear s0 s1 s2 s3 s4 f0 f1 f2 f3
      generalize (wr.alloc (.cells #[.int .i64 k2, .int .i64 a2, .int .i64 b2', .slice ad2 t2 cap2] 43)).drew = W2 at *
      have hw2' : Below w0.heap.size w0 W2 := hw0.trans (ho1.below (by omega) (by omega) (by omega) (by omega))
      rw [wpTakeT]
      rw [seqT_eq]
      simp only [List.getElem?_toArray, List.getElem?_cons_succ, List.getElem?_cons_zero]
      go_wp2_with fail
      have HC := HI.out W2 hJ3 hw2'
      clear HI
      have HXE := Lib.hid (fun x => playL_err st s j hlt2 qr x ts)
      have HXO := Lib.hid (fun q' v => playL_ok st s j hlt2 qr q' v ts)
      generalize hR2 : GT.play st s[j] qr = R2 at *
      refine HC.mono ?_
      rintro e w4 he
      cases R2 with
      | error x =>
        obtain ⟨rfl, g2, ho2⟩ := he
        have fin : ([] : List Deferred) = [] ∧ Md w.heap.size p1 p2 J (asList R) g w (.panicked [{ v := .iface 36 (.int .i64 x), recovered := false }]) w4 := by
          have : R = .error x := HE.out.symm.trans (HXE.out x rfl)
          rw [this]
          exact ⟨rfl, rfl, g2, ho1.trans ho2⟩
        exact fin
      | ok r =>
        obtain ⟨t, q2⟩ := r
        obtain ⟨u, rfl, g2, hJ4, ho2, S2, hS2, hv⟩ := he
        obtain ⟨l5, n5, k5, ad5, cap5, rfl⟩ := hv.shape
        have hEN := Lib.hid (HXO.out q2 t rfl)
        have hpb3 := hpb2.out t q2 rfl
        have hgn2 := ho2.new
        have hl4 := C.lt _ _ _ hJ4
        have hzw4 := ho2.size
        have x1 : Blk w4 wr.heap.size #[.int .i64 k2, .int .i64 a2, .int .i64 b2', .slice ad2 t2 cap2] 43 := (ho2.blk _ (by omega) (by omega) (by omega) (by omega)).trans x1
        have y2 : Blk w4 (w.heap.size + 1) #[Value.bool false, Value.int IntKind.i64 0, Value.slice none 0 0] 48 := (ho2.blk _ (by omega) (by omega) (by omega) (by omega)).trans y2
        have y3 : Blk w4 (w.heap.size + 1 + 1) #[Value.bool true, Value.int IntKind.i64 0, iv] 48 := (ho2.blk _ (by omega) (by omega) (by omega) (by omega)).trans y3
        have hit4 : Items w4 (w.heap.size + 3) S iv cs ts := hit1.keep hzw4 (fun b hb hbl => ho2.blk _ hbl (by have := hS b hb; omega) (by have := hS b hb; omega) (by have := hS b hb; omega)) (fun b hb hbl => ho2.blk _ hbl (by have := hit1.lt b hb; omega) (by have := hit1.lt b hb; omega) (by intro e; rw [e] at hb; exact hivg hb))
        have s0 := x1.cell 0
        have s1 := x1.cell 1
        have s2 := x1.cell 2
        have s3 := x1.cell 3
        have s4 := y3.cell 2
        simp only [List.getElem?_toArray, List.getElem?_cons_succ, List.getElem?_cons_zero] at s0 s1 s2 s3 s4
        go_wp2_with fail
        refine And.intro (fun _ => ⟨s0, s1, s2, s3, s4⟩) ?_
        rw [seqT_eq]
        simp only [List.getElem?_toArray, List.getElem?_cons_succ, List.getElem?_cons_zero]
        go_wp2_with fail
        have hm5 : Mine (w.heap.size + 3) p1 p2 g2 w4 (w4.alloc (.cells #[.bool l5, .int .i64 n5, .slice ad5 k5 cap5] 48)) := Mine.of_below (by repeat (first | with_reducible assumption | with_reducible exact Below.refl _ _ | with_reducible apply Below.drew | (with_reducible refine Below.alloc ?_ (by first | omega | (simp only [zA, zS, zD, zN]; omega) | (dsimp only; omega) | (simp only [zA, zS, zD, zN]; dsimp only; omega)) _) | (with_reducible refine Below.setCell ?_ (by first | omega | (simp only [zA, zS, zD, zN]; omega) | (dsimp only; omega) | (simp only [zA, zS, zD, zN]; dsimp only; omega)) _) | (with_reducible apply below_drewN))) (by omega)
        have z1 : Blk (w4.alloc (.cells #[.bool l5, .int .i64 n5, .slice ad5 k5 cap5] 48)) w4.heap.size #[.bool l5, .int .i64 n5, .slice ad5 k5 cap5] 48 := Blk.new _ _ _
        have hit5 : Items (w4.alloc (.cells #[.bool l5, .int .i64 n5, .slice ad5 k5 cap5] 48)) (w.heap.size + 3) S iv cs ts := hit4.keep (by simp) (fun b _ hb => Below.heap_alloc w4 _ b hb) (fun b _ hb => Below.heap_alloc w4 _ b hb)
        have hv5 := hv.ext (w' := w4.alloc (.cells #[.bool l5, .int .i64 n5, .slice ad5 k5 cap5] 48)) (by repeat (first | with_reducible assumption | with_reducible exact Below.refl _ _ | with_reducible apply Below.drew | (with_reducible refine Below.alloc ?_ (by first | omega | (simp only [zA, zS, zD, zN]; omega) | (dsimp only; omega) | (simp only [zA, zS, zD, zN]; dsimp only; omega)) _) | (with_reducible refine Below.setCell ?_ (by first | omega | (simp only [zA, zS, zD, zN]; omega) | (dsimp only; omega) | (simp only [zA, zS, zD, zN]; dsimp only; omega)) _) | (with_reducible apply below_drewN)))
        have hz5 : (w4.alloc (.cells #[.bool l5, .int .i64 n5, .slice ad5 k5 cap5] 48)).heap.size = w4.heap.size + 1 := by simp
        have x1 := x1.alloc (.cells #[.bool l5, .int .i64 n5, .slice ad5 k5 cap5] 48)
        have y2 := y2.alloc (.cells #[.bool l5, .int .i64 n5, .slice ad5 k5 cap5] 48)
        have y3 := y3.alloc (.cells #[.bool l5, .int .i64 n5, .slice ad5 k5 cap5] 48)
        have hJ5 := C.mine hJ4 hm5 (by omega)
        have ho5 := (ho1.trans ho2).mine hm5 (by omega)
        clear s0 s1 s2 s3 s4
        have s0 := x1.cell 0
        have s1 := x1.cell 1
        have s2 := x1.cell 2
        have s3 := x1.cell 3
        have s4 := y3.cell 2
        simp only [List.getElem?_toArray, List.getElem?_cons_succ, List.getElem?_cons_zero] at s0 s1 s2 s3 s4
        refine And.intro (fun _ => ⟨s0, s1, s2, s3, s4⟩) ?_
        generalize w4.alloc (.cells #[.bool l5, .int .i64 n5, .slice ad5 k5 cap5] 48) = w5 at *
        rw [seqT_eq]
        simp only [List.getElem?_toArray, List.getElem?_cons_succ, List.getElem?_cons_zero]
        obtain ⟨inf, hi0, hi1, hi2, hi3⟩ := info_value
        refine wpList_append_lies w5 rfl _ _ 46 rfl (w.heap.size + 3) 48 inf _ 3 40 Try.underlying46 hi0 hi1 hi2 hi3 rfl (by decide) iv ts.length cs rfl hit5.own ⟨w4.heap.size, 0, none⟩ 1 1 [.bool l5, .int .i64 n5, .slice ad5 k5 cap5] rfl rfl (World.news_of_block z1) (by simp [Value.oneCell']) (by decide) (by unfold maxLen; omega) (by omega) (by omega) w5.heap.size rfl ?_
        intro gi capi w6 how hgr hat hgl
        have hown2 : ∀ b, iv.ownBlock = some b → w.heap.size + 3 ≤ b ∧ b < wr.heap.size ∧ b ≠ g2 := by
          intro b hb
          have h1 := hit.lt b hb
          refine ⟨h1.1, h1.2, ?_⟩
          rcases hgn2 with e | e
          · rw [e]; intro e2; rw [e2] at hb; exact hivg hb
          · omega
        have hm6 : Mine (w.heap.size + 3) p1 p2 g2 w5 w6 := (Mine.refl _ _ _ _ _).grown hgr (by omega) (fun b hb => by have := hown2 b hb; omega) (Nat.le_refl _)
        have hitN : Items w6 (w.heap.size + 3) (fun b => S b ∨ S2 b) (.slice (some ⟨gi, 0, none⟩) (ts.length + 1) capi) (cs ++ [.bool l5, .int .i64 n5, .slice ad5 k5 cap5]) (ts ++ [t]) :=
          hit5.push how hgr (by rcases hat with e | e; · exact .inl (by rw [e]; rfl)
                                · exact .inr (by rw [← e]; rfl)) (fun b hb => by have := hS b hb; omega) (fun b hb => by
              have := hS2 b hb
              refine ⟨by omega, fun e => ?_⟩
              have := hown2 b e
              omega) hv5
        have hJ6 := C.mine hJ5 hm6 (by omega)
        have ho6 := ho5.mine hm6 (by omega)
        have hz6 := hgr.size
        have x1 : Blk w6 wr.heap.size #[.int .i64 k2, .int .i64 a2, .int .i64 b2', .slice ad2 t2 cap2] 43 := (hgr.block _ (by omega) (fun e => by have := hown2 _ e.symm; omega)).trans x1
        have y2 : Blk w6 (w.heap.size + 1) #[Value.bool false, Value.int IntKind.i64 0, Value.slice none 0 0] 48 := (hgr.block _ (by omega) (fun e => by have := hown2 _ e.symm; omega)).trans y2
        have y3 : Blk w6 (w.heap.size + 1 + 1) #[Value.bool true, Value.int IntKind.i64 0, iv] 48 := (hgr.block _ (by omega) (fun e => by have := hown2 _ e.symm; omega)).trans y3
        have hgi : gi ≠ g2 ∧ w.heap.size + 3 ≤ gi := by
          rcases hat with e | e
          · have := hown2 _ e; omega
          · have := hm5.below.size; omega
        clear s0 s1 s2 s3 s4
        have s0 := x1.cell 0
        have s1 := x1.cell 1
        have s2 := x1.cell 2
        have s3 := x1.cell 3
        have s4 := y3.cell 2
        have u4 := y3.unfrozen 2
        simp only [List.getElem?_toArray, List.getElem?_cons_succ, List.getElem?_cons_zero] at s0 s1 s2 s3 s4
        refine And.intro (fun _ => ⟨s0, s1, s2, s3, s4⟩) ?_
        simp only [Act.put, List.setIfInBounds_toArray, List.set_cons_zero, List.set_cons_succ]
        rw [seqT_eq]
        simp only [List.getElem?_toArray, List.getElem?_cons_succ, List.getElem?_cons_zero]
        go_wp2_with fail
        refine And.intro (fun h => absurd h (Nat.lt_irrefl _)) ?_
        rw [seqT_eq]
        simp only [List.getElem?_toArray, List.getElem?_cons_succ, List.getElem?_cons_zero]
        go_wp2_with fail
        refine And.intro (fun h => absurd h (by omega)) ?_
        rw [wpSeqT]
        go_wp2_with fail
        have hm7 : Mine w.heap.size p1 p2 g2 w6 (w6.setCell ⟨w.heap.size + 1 + 1, 2, none⟩ (.slice (some ⟨gi, 0, none⟩) (j + 1) capi)) := (Mine.refl _ _ _ _ _).set (by omega) (by omega) (by omega) (by omega) _ _
        have hJ7 := C.mine hJ6 hm7 (by omega)
        have ho7 := ho6.mine hm7 (Nat.le_refl _)
        have y3' := y3.set 2 (.slice (some ⟨gi, 0, none⟩) (j + 1) capi)
        simp only [List.setIfInBounds_toArray, List.set_cons_zero, List.set_cons_succ] at y3'
        have y2' := y2.oth (w.heap.size + 1 + 1) 2 (by omega) (.slice (some ⟨gi, 0, none⟩) (j + 1) capi)
        have hk7 : ∀ b, w.heap.size + 3 ≤ b → (w6.setCell ⟨w.heap.size + 1 + 1, 2, none⟩ (.slice (some ⟨gi, 0, none⟩) (j + 1) capi)).heap[b]? = w6.heap[b]? := fun b hb => Below.heap_setCell _ _ _ _ (by dsimp only; omega)
        rw [htl] at hitN
        have hitN7 : Items (w6.setCell ⟨w.heap.size + 1 + 1, 2, none⟩ (.slice (some ⟨gi, 0, none⟩) (j + 1) capi)) (w.heap.size + 3) (fun b => S b ∨ S2 b) (.slice (some ⟨gi, 0, none⟩) (j + 1) capi) (cs ++ [.bool l5, .int .i64 n5, .slice ad5 k5 cap5]) (ts ++ [t]) :=
          hitN.keep (by rw [size_setCell]; exact Nat.le_refl _) (fun b hb _ => hk7 b (by rcases hb with hb | hb; · have := hS b hb; omega
                                                                                         · have := hS2 b hb; omega)) (fun b hb _ => hk7 b (by have := hitN.lt b hb; omega))
        refine ⟨⟨j + 1, q2, g2, fun b => S b ∨ S2 b, .slice (some ⟨gi, 0, none⟩) (j + 1) capi, cs ++ [.bool l5, .int .i64 n5, .slice ad5 k5 cap5], ts ++ [t], by omega, by simp; omega, by go_num, hJ7, ho7, by rw [size_setCell]; omega, y2', y3', by omega, by omega, hitN7, fun b hb => ?_, ?_, by omega, ?_⟩, by simp [intOf]; omega⟩
        · rw [size_setCell]
          rcases hb with hb | hb
          · have := hS b hb
            omega
          · have := hS2 b hb
            omega
        · simp [Value.ownBlock]; exact hgi.1
        · exact hEN.out.symm.trans HE.out
    · have hjl : j = s.length := by omega
      have HF := HE.out
      rw [List.drop_eq_nil_of_le (by omega : s.length ≤ j)] at HF
      have HX : Hid (R = .ok (ts, qr)) := by show _ = _; rw [← HF]; simp [GT.playL, app]
      clear HF HE
      have p1' : ¬ ((j : Int) < (s.length : Int)) := by omega
      obtain ⟨adi, capi, rfl⟩ := hit.shape
      have bb3' : Blk wr (w.heap.size + 1 + 1) #[Value.bool true, Value.int IntKind.i64 0, .slice adi ts.length capi] 48 := bb3
      have s0 := bb3'.cell 0
      have s1 := bb3'.cell 1
      have s2 := bb3'.cell 2
      have d0 := bb2.cell 0
      have d1 := bb2.cell 1
      have d2 := bb2.cell 2
      have u0 := bb2.unfrozen 0
      have u1 := bb2.unfrozen 1
      have u2 := bb2.unfrozen 2
      simp only [List.getElem?_toArray, List.getElem?_cons_succ, List.getElem?_cons_zero] at s0 s1 s2 d0 d1 d2
      go_wp2_with fail
      obtain ⟨b5, hfin⟩ := made_end C (by omega) (by omega) (by omega) (by omega) (by omega) (by omega) hJr hor bb2 (fun b h => by
        rcases h with h | h
        · have := hS b h; omega
        · have := hit.lt b h
          refine ⟨by omega, by omega, ?_, by omega⟩
          intro e
          rw [e] at h
          exact hivg h) (c0 := .bool true) (c1 := .int .i64 0) (c2 := .slice adi ts.length capi) hit.val
      have hts : ts.length = s.length := by omega
      rw [hts] at b5 hfin
      clear d0 d1 d2 u0 u1 u2 s0 s1 s2
      generalize ((wr.setCell ⟨w.heap.size + 1, 0, none⟩ (.bool true)).setCell ⟨w.heap.size + 1, 1, none⟩ (.int .i64 0)).setCell ⟨w.heap.size + 1, 2, none⟩ (.slice adi s.length capi) = W4 at *
      have d0 := b5.cell 0
      have d1 := b5.cell 1
      have d2 := b5.cell 2
      simp only [List.getElem?_toArray, List.getElem?_cons_succ, List.getElem?_cons_zero] at d0 d1 d2
      refine bodyPost_ret (v := .agg #[.bool true, .int .i64 0, .slice adi s.length capi]) (by simp [results, Try.results37, go_sem, d0, d1, d2]) rfl ?_
      rw [HX.out]
      exact ⟨_, rfl, hfin⟩
end
end Go.Proofs.Ytocngjpjheockaa
namespace Go.Proofs.Ytocngjpjheockaa
set_option maxRecDepth 100000
open Go.RowKit
set_option linter.unusedSimpArgs false
set_option linter.unusedVariables false
section
variable {σ : Type} {B k p1 p2 : Nat} {st : Int → σ → Except Int (Int × σ)} {J : σ → Nat → World → Prop} {bud : σ → Nat}
theorem times_ok (f : σ → Except Int (VT × σ)) (m j : Nat) (h : j < m) (q q' : σ) (v : VT) (ts : List VT) (e : f q = .ok (v, q')) :
    app ts (GT.times f (m - j) q) = app (ts ++ [v]) (GT.times f (m - (j + 1)) q') := by
  rw [show m - j = (m - (j + 1)) + 1 by omega]
  simp only [GT.times, e]
  cases GT.times f (m - (j + 1)) q' <;> simp [app]
theorem times_err (f : σ → Except Int (VT × σ)) (m j : Nat) (h : j < m) (q : σ) (y : Int) (ts : List VT) (e : f q = .error y) :
    app ts (GT.times f (m - j) q) = .error y := by
  rw [show m - j = (m - (j + 1)) + 1 by omega]
  simp only [GT.times, e]
  rfl
set_option maxHeartbeats 8000000 in
theorem made_4 (C : Cho B k p1 p2 st J bud) (w0 : World) (h0B : w0.heap.size ≤ B) (q : σ) (g : Nat) (w : World) (hJ : J q g w) (hw0 : Below w0.heap.size w0 w) (a b : Int) (ad : Option Addr) (cap : Nat) (x : GT) (hs : GensAt w0 ad [x]) (ha0 : 0 ≤ a) (ha1 : a ≤ 5) (hbq : 1 + 5 * GT.cost x ≤ bud q) (hpb : ∀ q t q', GT.play st x q = .ok (t, q') → bud q ≤ bud q' + GT.cost x)
   (IH : ∀ q g w v, GT.cost x ≤ bud q → J q g w → Below w0.heap.size w0 w → GenAt w0 v x → Calls Try.prog 37 #[.func (.func k) #[] #[.pointer (some ⟨p1, 0, none⟩), .pointer (some ⟨p2, 0, none⟩)], v] w (Md w.heap.size p1 p2 J (GT.play st x q) g w)) :
   Calls Try.prog 37 #[.func (.func k) #[] #[.pointer (some ⟨p1, 0, none⟩), .pointer (some ⟨p2, 0, none⟩)], .agg #[.int .i64 4, .int .i64 a, .int .i64 b, .slice ad 1 cap]] w (Md w.heap.size p1 p2 J (GT.play st (.mk 4 a b [x]) q) g w) := by
  have hlt := C.lt q g w hJ
  have hk := C.enter
  have HH := Lib.hid (C.call a q g)
  have HBD := Lib.hid (C.bd a q)
  have HBB := Lib.hid (C.bdd a q)
  have HP : Hid (GT.play st (.mk 4 a b [x]) q = match st a q with
      | .error e => .error e
      | .ok (c, q) => asList (app [] (GT.times (fun q => GT.play st x q) (c.toNat - 0) q))) := by
    show _ = _
    simp only [GT.play, GT.playN, show ¬ ((4:Int) = 1) by decide, show ¬ ((4:Int) = 2) by decide, show ¬ ((4:Int) = 3) by decide, if_false, if_pos (rfl : (4:Int) = 4), app_nil, Nat.sub_zero]
    cases st a q with
    | error e => rfl
    | ok r => rfl
  rw [HP.out]
  have IHH := Lib.hid IH
  clear IH HP
  generalize hR0 : st a q = R0 at *
  go_enter Try.func37, Try.ntmps37
  go_upto_region 14 with (fail)
  generalize hW : ((w.alloc (Obj.cells #[Value.int IntKind.i64 4, Value.int IntKind.i64 a, Value.int IntKind.i64 b, Value.slice ad 1 cap] 43)).alloc
      (Obj.cells #[Value.bool false, Value.int IntKind.i64 0, Value.slice none 0 0] 48)).alloc (Obj.cells #[Value.bool true, Value.int IntKind.i64 0, Value.slice none 0 0] 48) = W
  have hB : Below w.heap.size w W := by rw [← hW]; repeat (first | with_reducible assumption | with_reducible exact Below.refl _ _ | with_reducible apply Below.drew | (with_reducible refine Below.alloc ?_ (by first | omega | (simp only [zA, zS, zD, zN]; omega) | (dsimp only; omega) | (simp only [zA, zS, zD, zN]; dsimp only; omega)) _) | (with_reducible refine Below.setCell ?_ (by first | omega | (simp only [zA, zS, zD, zN]; omega) | (dsimp only; omega) | (simp only [zA, zS, zD, zN]; dsimp only; omega)) _) | (with_reducible apply below_drewN))
  have hz : W.heap.size = w.heap.size + 3 := by rw [← hW]; simp
  have b1 : Blk W w.heap.size #[Value.int IntKind.i64 4, Value.int IntKind.i64 a, Value.int IntKind.i64 b, Value.slice ad 1 cap] 43 := by rw [← hW]; exact ((Blk.new _ _ _).alloc _).alloc _
  have b2 : Blk W (w.heap.size + 1) #[Value.bool false, Value.int IntKind.i64 0, Value.slice none 0 0] 48 := by rw [← hW]; exact (show Blk _ _ _ _ by simpa using Blk.new (w.alloc (Obj.cells #[Value.int IntKind.i64 4, Value.int IntKind.i64 a, Value.int IntKind.i64 b, Value.slice ad 1 cap] 43)) #[Value.bool false, Value.int IntKind.i64 0, Value.slice none 0 0] 48).alloc _
  have b3 : Blk W (w.heap.size + 2) #[Value.bool true, Value.int IntKind.i64 0, Value.slice none 0 0] 48 := by rw [← hW]; exact (show Blk _ _ _ _ by simpa using Blk.new ((w.alloc (Obj.cells #[Value.int IntKind.i64 4, Value.int IntKind.i64 a, Value.int IntKind.i64 b, Value.slice ad 1 cap] 43)).alloc (Obj.cells #[Value.bool false, Value.int IntKind.i64 0, Value.slice none 0 0] 48)) #[Value.bool true, Value.int IntKind.i64 0, Value.slice none 0 0] 48)
  clear hW
  have c1 := b1.cell 3
  have c2 := b1.cell 1
  simp only [List.getElem?_toArray, List.getElem?_cons_succ, List.getElem?_cons_zero] at c1 c2
  have hm : Mine w.heap.size p1 p2 g w W := (Mine.of_below hB (Nat.le_refl _))
  have hJ2 := C.mine hJ hm (by omega)
  have hw2 : Below w0.heap.size w0 W := hw0.trans (hm.below.mono hw0.size)
  have hz0 := hw0.size
  have b3' : Blk W (w.heap.size + 1 + 1) #[Value.bool true, Value.int IntKind.i64 0, Value.slice none 0 0] 48 := b3
  go_wp2_with fail
  refine (HH.out W (by omega) (by omega) (by omega) hJ2).mono ?_
  rintro e wc he
  cases R0 with
  | error x =>
    obtain ⟨rfl, g', ho⟩ := he
    have fin : ([] : List Deferred) = [] ∧ Md w.heap.size p1 p2 J (.error x) g w (.panicked [{ v := .iface 36 (.int .i64 x), recovered := false }]) wc := ⟨rfl, rfl, g', ((Own.refl _ _ _ _).mine hm (Nat.le_refl _)).trans ho⟩
    exact fin
  | ok r =>
  obtain ⟨c, qc⟩ := r
  obtain ⟨rfl, gc, hJc, hoc⟩ := he
  have hc := HBD.out c qc (by omega) rfl
  obtain ⟨m, rfl⟩ := Int.eq_ofNat_of_zero_le hc.1
  have hmb : m ≤ 5 := by omega
  have hbb := HBB.out _ qc (by omega) rfl
  have hmc : m * GT.cost x ≤ 5 * GT.cost x := Nat.mul_le_mul_right _ hmb
  have hzc := hoc.size
  have hgc := hoc.new
  have hoC := ((Own.refl _ _ _ _).mine hm (Nat.le_refl _)).trans hoc
  have b1 : Blk wc w.heap.size #[Value.int IntKind.i64 4, Value.int IntKind.i64 a, Value.int IntKind.i64 b, Value.slice ad 1 cap] 43 := (hoc.blk _ (by omega) (by omega) (by omega) (by omega)).trans b1
  have b2 : Blk wc (w.heap.size + 1) #[Value.bool false, Value.int IntKind.i64 0, Value.slice none 0 0] 48 := (hoc.blk _ (by omega) (by omega) (by omega) (by omega)).trans b2
  have b3 : Blk wc (w.heap.size + 2) #[Value.bool true, Value.int IntKind.i64 0, Value.slice none 0 0] 48 := (hoc.blk _ (by omega) (by omega) (by omega) (by omega)).trans b3
  have htn : Int.toNat (m : Int) = m := Int.toNat_natCast m
  simp only [htn]
  obtain ⟨R, HR0⟩ : ∃ R, Hid (app [] (GT.times (fun q => GT.play st x q) (m - 0) qc) = R) := ⟨_, rfl⟩
  clear c1 c2 b3' HH HBD htn hc
  go_wp2_with fail
  go_loopw [53] (fun i wr => ∃ (j : Nat) (qr : σ) (gr : Nat) (S : Nat → Prop) (iv : Value) (cs : List Value) (ts : List VT), j ≤ m ∧ ts.length = j ∧ i = .int .i64 j ∧ J qr gr wr ∧ Own p1 p2 g gr w wr ∧ w.heap.size + 3 ≤ wr.heap.size ∧
    Blk wr w.heap.size #[Value.int IntKind.i64 4, Value.int IntKind.i64 a, Value.int IntKind.i64 b, Value.slice ad 1 cap] 43 ∧ gr ≠ w.heap.size ∧ Blk wr (w.heap.size + 1) #[Value.bool false, Value.int IntKind.i64 0, Value.slice none 0 0] 48 ∧ Blk wr (w.heap.size + 2) #[Value.bool true, Value.int IntKind.i64 0, iv] 48 ∧ gr ≠ w.heap.size + 1 ∧ gr ≠ w.heap.size + 2 ∧
    Items wr (w.heap.size + 3) S iv cs ts ∧ (∀ b, S b → w.heap.size + 3 ≤ b ∧ b < wr.heap.size ∧ b ≠ gr) ∧ (iv.ownBlock ≠ some gr) ∧ (m - j) * GT.cost x ≤ bud qr ∧
    Hid (app ts (GT.times (fun q => GT.play st x q) (m - j) qr) = R)) (fun i _ => m - (intOf i).toNat)
  case atStart =>
    exact ⟨0, qc, gc, fun _ => False, .slice none 0 0, [], [], by omega, rfl, rfl, hJc, hoC, by omega, b1, by omega, b2, b3, by omega, by omega, Items.nil _ _, fun b h => h.elim, by simp [Value.ownBlock], by simp only [Nat.sub_zero]; omega, HR0⟩
  case round =>
    obtain ⟨j, qr, gr, S, iv, cs, ts, hj, htl, rfl, hJr, hor, hzr, bb1, hg0, bb2, bb3, hg1, hg2, hit, hS, hivg, hcb, HE⟩ := hrel
    have hlr := C.lt _ _ _ hJr
    have hgn := hor.new
    by_cases hlt2 : j < m
    · have p0 : (0 : Int) ≤ (j : Int) := by omega
      have p1' : (j : Int) < (m : Int) := by omega
      obtain ⟨bl, off, rfl, hbl, hc2⟩ := hs.at' (by simp)
      obtain ⟨k2, a2, b2', t2, ad2, cap2, e0, e1, e2, e3, hgk⟩ := hc2 0 (by simp)
      simp only [Nat.zero_mul, Nat.add_zero] at e0 e1 e2 e3
      have hF : ∀ W', Below w0.heap.size w0 W' → W'.cell? ⟨bl, off, none⟩ = some (.int .i64 k2) ∧ W'.cell? ⟨bl, off + 1, none⟩ = some (.int .i64 a2) ∧ W'.cell? ⟨bl, off + 2, none⟩ = some (.int .i64 b2') ∧ W'.cell? ⟨bl, off + 3, none⟩ = some (.slice ad2 t2 cap2) := fun W' h =>
        ⟨(h.cell (p := ⟨bl, _, none⟩) hbl).trans e0, (h.cell (p := ⟨bl, _, none⟩) hbl).trans e1, (h.cell (p := ⟨bl, _, none⟩) hbl).trans e2, (h.cell (p := ⟨bl, _, none⟩) hbl).trans e3⟩
      have HF := Lib.hid hF
      clear hF e0 e1 e2 e3 hc2
      rw [show m - j = (m - (j + 1)) + 1 by omega, Nat.add_mul, Nat.one_mul] at hcb
      have hpb2 := Lib.hid (hpb qr)
      have HI := Lib.hid (fun W (h : J qr gr W) (h2 : Below w0.heap.size w0 W) => IHH.out qr gr W _ (by omega) h h2 hgk)
      clear hgk
      go_wp2_with fail
      have hm1 : Mine (w.heap.size + 3) p1 p2 gr wr wr.drew := (Mine.refl _ _ _ _ _).drew
      have x1 : Blk wr.drew w.heap.size #[.int .i64 4, .int .i64 a, .int .i64 b, .slice (some ⟨bl, off, none⟩) 1 cap] 43 := bb1
      have hzx : wr.drew.heap.size = wr.heap.size := rfl
      have y2 : Blk wr.drew (w.heap.size + 1) #[Value.bool false, Value.int IntKind.i64 0, Value.slice none 0 0] 48 := bb2
      have y3 : Blk wr.drew (w.heap.size + 1 + 1) #[Value.bool true, Value.int IntKind.i64 0, iv] 48 := bb3
      have hit1 : Items wr.drew (w.heap.size + 3) S iv cs ts := hit.keep (by omega) (fun b _ hb => rfl) (fun b _ hb => rfl)
      have hJ3 := C.mine hJr hm1 (by omega)
      have ho1 := hor.mine hm1 (by omega)
      have hw2' : Below w0.heap.size w0 wr.drew := hw0.trans (ho1.below (by omega) (by omega) (by omega) (by omega))
      have s0 := HF.out _ hw2'
      obtain ⟨s0, s1, s2, s3⟩ := s0
      have s4 := y3.cell 2
      have s5 := x1.cell 3
      simp only [List.getElem?_toArray, List.getElem?_cons_succ, List.getElem?_cons_zero] at s4 s5
      refine region_take (S := fun w' => w'.cell? ⟨bl, off, none⟩ = some (.int .i64 k2) ∧ w'.cell? ⟨bl, off + 1, none⟩ = some (.int .i64 a2) ∧ w'.cell? ⟨bl, off + 2, none⟩ = some (.int .i64 b2') ∧ w'.cell? ⟨bl, off + 3, none⟩ = some (.slice ad2 t2 cap2) ∧ w'.cell? ⟨w.heap.size + 1 + 1, 2, none⟩ = some iv ∧ w'.cell? ⟨w.heap.size, 3, none⟩ = some (.slice (some ⟨bl, off, none⟩) 1 cap)) (n := 10) (takes := [0, 1, 2, 3, 4, 5, 6]) (rest := [7, 8, 9, 10, 11]) (hm := by kernel_rfl) (hB := by kernel_rfl) (hQ := fun c a d v w h => by cases d <;> exact h) (hS := ⟨s0, s1, s2, s3, s4, s5⟩) ?_
      iterate 7
        rw [takeT_eq]
        simp only [List.getElem?_toArray, List.getElem?_cons_succ, List.getElem?_cons_zero]
        refine ⟨?_, .inl ⟨by rfl, ?_⟩, ?_⟩
        rotate_left
        · rintro w' ⟨s0, s1, s2, s3, s4, s5⟩
          go_simp
          rfl
        simp only [Act.put, List.setIfInBounds_toArray, List.set_cons_zero, List.set_cons_succ]
      clear s0 s1 s2 s3 s4 s5
      generalize wr.drew = W2 at *
      rw [wpTakeT]
      rw [seqT_eq]
      simp only [List.getElem?_toArray, List.getElem?_cons_succ, List.getElem?_cons_zero]
      go_wp2_with fail
      have HC := HI.out W2 hJ3 hw2'
      clear HI
      have HXE := Lib.hid (fun y => times_err (fun q => GT.play st x q) m j hlt2 qr y ts)
      have HXO := Lib.hid (fun q' v => times_ok (fun q => GT.play st x q) m j hlt2 qr q' v ts)
      generalize hR2 : GT.play st x qr = R2 at *
      refine HC.mono ?_
      rintro e w4 he
      cases R2 with
      | error y =>
        obtain ⟨rfl, g2, ho2⟩ := he
        have fin : ([] : List Deferred) = [] ∧ Md w.heap.size p1 p2 J (asList (app [] (GT.times (fun q => GT.play st x q) (m - 0) qc))) g w (.panicked [{ v := .iface 36 (.int .i64 y), recovered := false }]) w4 := by
          have : R = .error y := HE.out.symm.trans (HXE.out y rfl)
          rw [HR0.out, this]
          exact ⟨rfl, rfl, g2, ho1.trans ho2⟩
        exact fin
      | ok r =>
        obtain ⟨t, q2⟩ := r
        obtain ⟨u, rfl, g2, hJ4, ho2, S2, hS2, hv⟩ := he
        obtain ⟨l5, n5, k5, ad5, cap5, rfl⟩ := hv.shape
        have hEN := Lib.hid (HXO.out q2 t rfl)
        have hpb3 := hpb2.out t q2 rfl
        have hgn2 := ho2.new
        have hl4 := C.lt _ _ _ hJ4
        have hzw4 := ho2.size
        have x1 : Blk w4 w.heap.size #[.int .i64 4, .int .i64 a, .int .i64 b, .slice (some ⟨bl, off, none⟩) 1 cap] 43 := (ho2.blk _ (by omega) (by omega) (by omega) (by omega)).trans x1
        have y2 : Blk w4 (w.heap.size + 1) #[Value.bool false, Value.int IntKind.i64 0, Value.slice none 0 0] 48 := (ho2.blk _ (by omega) (by omega) (by omega) (by omega)).trans y2
        have y3 : Blk w4 (w.heap.size + 1 + 1) #[Value.bool true, Value.int IntKind.i64 0, iv] 48 := (ho2.blk _ (by omega) (by omega) (by omega) (by omega)).trans y3
        have hit4 : Items w4 (w.heap.size + 3) S iv cs ts := hit1.keep hzw4 (fun b hb hbl => ho2.blk _ hbl (by have := hS b hb; omega) (by have := hS b hb; omega) (by have := hS b hb; omega)) (fun b hb hbl => ho2.blk _ hbl (by have := hit1.lt b hb; omega) (by have := hit1.lt b hb; omega) (by intro e; rw [e] at hb; exact hivg hb))
        obtain ⟨s0, s1, s2, s3⟩ := HF.out _ (hw0.trans (Own.below (ho1.trans ho2) (by omega) (by omega) (by omega) (by omega)))
        have s4 := y3.cell 2
        have s5 := x1.cell 3
        simp only [List.getElem?_toArray, List.getElem?_cons_succ, List.getElem?_cons_zero] at s4 s5
        go_wp2_with fail
        refine And.intro (fun _ => ⟨s0, s1, s2, s3, s4, s5⟩) ?_
        rw [seqT_eq]
        simp only [List.getElem?_toArray, List.getElem?_cons_succ, List.getElem?_cons_zero]
        go_wp2_with fail
        have hm5 : Mine (w.heap.size + 3) p1 p2 g2 w4 (w4.alloc (.cells #[.bool l5, .int .i64 n5, .slice ad5 k5 cap5] 48)) := Mine.of_below (by repeat (first | with_reducible assumption | with_reducible exact Below.refl _ _ | with_reducible apply Below.drew | (with_reducible refine Below.alloc ?_ (by first | omega | (simp only [zA, zS, zD, zN]; omega) | (dsimp only; omega) | (simp only [zA, zS, zD, zN]; dsimp only; omega)) _) | (with_reducible refine Below.setCell ?_ (by first | omega | (simp only [zA, zS, zD, zN]; omega) | (dsimp only; omega) | (simp only [zA, zS, zD, zN]; dsimp only; omega)) _) | (with_reducible apply below_drewN))) (by omega)
        have z1 : Blk (w4.alloc (.cells #[.bool l5, .int .i64 n5, .slice ad5 k5 cap5] 48)) w4.heap.size #[.bool l5, .int .i64 n5, .slice ad5 k5 cap5] 48 := Blk.new _ _ _
        have hit5 : Items (w4.alloc (.cells #[.bool l5, .int .i64 n5, .slice ad5 k5 cap5] 48)) (w.heap.size + 3) S iv cs ts := hit4.keep (by simp) (fun b _ hb => Below.heap_alloc w4 _ b hb) (fun b _ hb => Below.heap_alloc w4 _ b hb)
        have hv5 := hv.ext (w' := w4.alloc (.cells #[.bool l5, .int .i64 n5, .slice ad5 k5 cap5] 48)) (by repeat (first | with_reducible assumption | with_reducible exact Below.refl _ _ | with_reducible apply Below.drew | (with_reducible refine Below.alloc ?_ (by first | omega | (simp only [zA, zS, zD, zN]; omega) | (dsimp only; omega) | (simp only [zA, zS, zD, zN]; dsimp only; omega)) _) | (with_reducible refine Below.setCell ?_ (by first | omega | (simp only [zA, zS, zD, zN]; omega) | (dsimp only; omega) | (simp only [zA, zS, zD, zN]; dsimp only; omega)) _) | (with_reducible apply below_drewN)))
        have hz5 : (w4.alloc (.cells #[.bool l5, .int .i64 n5, .slice ad5 k5 cap5] 48)).heap.size = w4.heap.size + 1 := by simp
        have x1 := x1.alloc (.cells #[.bool l5, .int .i64 n5, .slice ad5 k5 cap5] 48)
        have y2 := y2.alloc (.cells #[.bool l5, .int .i64 n5, .slice ad5 k5 cap5] 48)
        have y3 := y3.alloc (.cells #[.bool l5, .int .i64 n5, .slice ad5 k5 cap5] 48)
        have hJ5 := C.mine hJ4 hm5 (by omega)
        have ho5 := (ho1.trans ho2).mine hm5 (by omega)
        clear s0 s1 s2 s3 s4 s5
        obtain ⟨s0, s1, s2, s3⟩ := HF.out _ (hw0.trans (Own.below (ho5) (by omega) (by omega) (by omega) (by omega)))
        have s4 := y3.cell 2
        have s5 := x1.cell 3
        simp only [List.getElem?_toArray, List.getElem?_cons_succ, List.getElem?_cons_zero] at s4 s5
        refine And.intro (fun _ => ⟨s0, s1, s2, s3, s4, s5⟩) ?_
        generalize w4.alloc (.cells #[.bool l5, .int .i64 n5, .slice ad5 k5 cap5] 48) = w5 at *
        rw [seqT_eq]
        simp only [List.getElem?_toArray, List.getElem?_cons_succ, List.getElem?_cons_zero]
        obtain ⟨inf, hi0, hi1, hi2, hi3⟩ := info_value
        refine wpList_append_lies w5 rfl _ _ 46 rfl (w.heap.size + 3) 48 inf _ 3 40 Try.underlying46 hi0 hi1 hi2 hi3 rfl (by decide) iv ts.length cs rfl hit5.own ⟨w4.heap.size, 0, none⟩ 1 1 [.bool l5, .int .i64 n5, .slice ad5 k5 cap5] rfl rfl (World.news_of_block z1) (by simp [Value.oneCell']) (by decide) (by unfold maxLen; omega) (by omega) (by omega) w5.heap.size rfl ?_
        intro gi capi w6 how hgr hat hgl
        have hown2 : ∀ b, iv.ownBlock = some b → w.heap.size + 3 ≤ b ∧ b < wr.heap.size ∧ b ≠ g2 := by
          intro b hb
          have h1 := hit.lt b hb
          refine ⟨h1.1, h1.2, ?_⟩
          rcases hgn2 with e | e
          · rw [e]; intro e2; rw [e2] at hb; exact hivg hb
          · omega
        have hm6 : Mine (w.heap.size + 3) p1 p2 g2 w5 w6 := (Mine.refl _ _ _ _ _).grown hgr (by omega) (fun b hb => by have := hown2 b hb; omega) (Nat.le_refl _)
        have hitN : Items w6 (w.heap.size + 3) (fun b => S b ∨ S2 b) (.slice (some ⟨gi, 0, none⟩) (ts.length + 1) capi) (cs ++ [.bool l5, .int .i64 n5, .slice ad5 k5 cap5]) (ts ++ [t]) :=
          hit5.push how hgr (by rcases hat with e | e; · exact .inl (by rw [e]; rfl)
                                · exact .inr (by rw [← e]; rfl)) (fun b hb => by have := hS b hb; omega) (fun b hb => by
              have := hS2 b hb
              refine ⟨by omega, fun e => ?_⟩
              have := hown2 b e
              omega) hv5
        have hJ6 := C.mine hJ5 hm6 (by omega)
        have ho6 := ho5.mine hm6 (by omega)
        have hz6 := hgr.size
        have x1 : Blk w6 w.heap.size #[.int .i64 4, .int .i64 a, .int .i64 b, .slice (some ⟨bl, off, none⟩) 1 cap] 43 := (hgr.block _ (by omega) (fun e => by have := hown2 _ e.symm; omega)).trans x1
        have y2 : Blk w6 (w.heap.size + 1) #[Value.bool false, Value.int IntKind.i64 0, Value.slice none 0 0] 48 := (hgr.block _ (by omega) (fun e => by have := hown2 _ e.symm; omega)).trans y2
        have y3 : Blk w6 (w.heap.size + 1 + 1) #[Value.bool true, Value.int IntKind.i64 0, iv] 48 := (hgr.block _ (by omega) (fun e => by have := hown2 _ e.symm; omega)).trans y3
        have hgi : gi ≠ g2 ∧ w.heap.size + 3 ≤ gi := by
          rcases hat with e | e
          · have := hown2 _ e; omega
          · have := hm5.below.size; omega
        clear s0 s1 s2 s3 s4 s5
        obtain ⟨s0, s1, s2, s3⟩ := HF.out _ (hw0.trans (Own.below (ho6) (by omega) (by omega) (by omega) (by omega)))
        have s4 := y3.cell 2
        have s5 := x1.cell 3
        have u4 := y3.unfrozen 2
        simp only [List.getElem?_toArray, List.getElem?_cons_succ, List.getElem?_cons_zero] at s4 s5
        refine And.intro (fun _ => ⟨s0, s1, s2, s3, s4, s5⟩) ?_
        simp only [Act.put, List.setIfInBounds_toArray, List.set_cons_zero, List.set_cons_succ]
        rw [seqT_eq]
        simp only [List.getElem?_toArray, List.getElem?_cons_succ, List.getElem?_cons_zero]
        go_wp2_with fail
        refine And.intro (fun h => absurd h (Nat.lt_irrefl _)) ?_
        rw [seqT_eq]
        simp only [List.getElem?_toArray, List.getElem?_cons_succ, List.getElem?_cons_zero]
        go_wp2_with fail
        refine And.intro (fun h => absurd h (by omega)) ?_
        rw [wpSeqT]
        go_wp2_with fail
        have hm7 : Mine w.heap.size p1 p2 g2 w6 (w6.setCell ⟨w.heap.size + 1 + 1, 2, none⟩ (.slice (some ⟨gi, 0, none⟩) (j + 1) capi)) := (Mine.refl _ _ _ _ _).set (by omega) (by omega) (by omega) (by omega) _ _
        have hJ7 := C.mine hJ6 hm7 (by omega)
        have ho7 := ho6.mine hm7 (Nat.le_refl _)
        have y3' := y3.set 2 (.slice (some ⟨gi, 0, none⟩) (j + 1) capi)
        simp only [List.setIfInBounds_toArray, List.set_cons_zero, List.set_cons_succ] at y3'
        have x1' := x1.oth (w.heap.size + 1 + 1) 2 (by omega) (.slice (some ⟨gi, 0, none⟩) (j + 1) capi)
        have y2' := y2.oth (w.heap.size + 1 + 1) 2 (by omega) (.slice (some ⟨gi, 0, none⟩) (j + 1) capi)
        have hk7 : ∀ b, w.heap.size + 3 ≤ b → (w6.setCell ⟨w.heap.size + 1 + 1, 2, none⟩ (.slice (some ⟨gi, 0, none⟩) (j + 1) capi)).heap[b]? = w6.heap[b]? := fun b hb => Below.heap_setCell _ _ _ _ (by dsimp only; omega)
        rw [htl] at hitN
        have hitN7 : Items (w6.setCell ⟨w.heap.size + 1 + 1, 2, none⟩ (.slice (some ⟨gi, 0, none⟩) (j + 1) capi)) (w.heap.size + 3) (fun b => S b ∨ S2 b) (.slice (some ⟨gi, 0, none⟩) (j + 1) capi) (cs ++ [.bool l5, .int .i64 n5, .slice ad5 k5 cap5]) (ts ++ [t]) :=
          hitN.keep (by rw [size_setCell]; exact Nat.le_refl _) (fun b hb _ => hk7 b (by rcases hb with hb | hb; · have := hS b hb; omega
                                                                                         · have := hS2 b hb; omega)) (fun b hb _ => hk7 b (by have := hitN.lt b hb; omega))
        refine ⟨⟨j + 1, q2, g2, fun b => S b ∨ S2 b, .slice (some ⟨gi, 0, none⟩) (j + 1) capi, cs ++ [.bool l5, .int .i64 n5, .slice ad5 k5 cap5], ts ++ [t], by omega, by simp; omega, by go_num, hJ7, ho7, by rw [size_setCell]; omega, x1', by omega, y2', y3', by omega, by omega, hitN7, fun b hb => ?_, ?_, by omega, ?_⟩, by simp [intOf]; omega⟩
        · rw [size_setCell]
          rcases hb with hb | hb
          · have := hS b hb
            omega
          · have := hS2 b hb
            omega
        · simp [Value.ownBlock]; exact hgi.1
        · exact hEN.out.symm.trans HE.out
    · have hjl : j = m := by omega
      have HF := HE.out
      rw [show m - j = 0 by omega] at HF
      have HX : Hid (R = .ok (ts, qr)) := by show _ = _; rw [← HF]; simp [GT.times, app]
      clear HF HE
      have p1' : ¬ ((j : Int) < (m : Int)) := by omega
      obtain ⟨adi, capi, rfl⟩ := hit.shape
      have bb3' : Blk wr (w.heap.size + 1 + 1) #[Value.bool true, Value.int IntKind.i64 0, .slice adi ts.length capi] 48 := bb3
      have s0 := bb3'.cell 0
      have s1 := bb3'.cell 1
      have s2 := bb3'.cell 2
      have d0 := bb2.cell 0
      have d1 := bb2.cell 1
      have d2 := bb2.cell 2
      have u0 := bb2.unfrozen 0
      have u1 := bb2.unfrozen 1
      have u2 := bb2.unfrozen 2
      simp only [List.getElem?_toArray, List.getElem?_cons_succ, List.getElem?_cons_zero] at s0 s1 s2 d0 d1 d2
      go_wp2_with fail
      obtain ⟨b5, hfin⟩ := made_end C (by omega) (by omega) (by omega) (by omega) (by omega) (by omega) hJr hor bb2 (fun b h => by
        rcases h with h | h
        · have := hS b h; omega
        · have := hit.lt b h
          refine ⟨by omega, by omega, ?_, by omega⟩
          intro e
          rw [e] at h
          exact hivg h) (c0 := .bool true) (c1 := .int .i64 0) (c2 := .slice adi ts.length capi) hit.val
      have hts : ts.length = m := by omega
      rw [hts] at b5 hfin
      clear d0 d1 d2 u0 u1 u2 s0 s1 s2
      generalize ((wr.setCell ⟨w.heap.size + 1, 0, none⟩ (.bool true)).setCell ⟨w.heap.size + 1, 1, none⟩ (.int .i64 0)).setCell ⟨w.heap.size + 1, 2, none⟩ (.slice adi m capi) = W4 at *
      have d0 := b5.cell 0
      have d1 := b5.cell 1
      have d2 := b5.cell 2
      simp only [List.getElem?_toArray, List.getElem?_cons_succ, List.getElem?_cons_zero] at d0 d1 d2
      refine bodyPost_ret (v := .agg #[.bool true, .int .i64 0, .slice adi m capi]) (by simp [results, Try.results37, go_sem, d0, d1, d2]) rfl ?_
      have HRR : app [] (GT.times (fun q => GT.play st x q) m qc) = R := HR0.out
      rw [HRR, HX.out]
      exact ⟨_, rfl, hfin⟩
end
theorem GT.parts_pos (g : GT) (d : Nat) : 1 ≤ (GT.parts g d).1 := by
  have hL : ∀ (s : List GT) (d : Nat) (r : Nat × Bool), r.1 ≤ (GT.partsL s d r).1 := by
    intro s
    induction s with
    | nil => intro d r; exact Nat.le_refl _
    | cons x s ih =>
      intro d r
      simp only [GT.partsL]
      split
      · have := ih d (r.1 + (GT.parts x (d + 1)).1, (GT.parts x (d + 1)).2 && decide (r.1 + (GT.parts x (d + 1)).1 ≤ 30))
        simp only at this ⊢
        omega
      · exact Nat.le_refl _
  cases g with
  | mk k a b s => exact hL s d (1, decide (d < 6))
theorem GT.partsL_ok (s : List GT) (d : Nat) : ∀ r : Nat × Bool, (GT.partsL s d r).2 = true → r.2 = true ∧ (∀ x ∈ s, (GT.parts x (d + 1)).2 = true) ∧ r.1 + s.length ≤ (GT.partsL s d r).1 := by
  induction s with
  | nil => intro r h; exact ⟨h, by simp, by simp [GT.partsL]⟩
  | cons x s ih =>
    intro r h
    simp only [GT.partsL] at h ⊢
    split at h
    · rename_i hr
      rw [if_pos hr]
      obtain ⟨h1, h2, h3⟩ := ih _ h
      simp only [Bool.and_eq_true, decide_eq_true_eq] at h1
      refine ⟨hr, ?_, ?_⟩
      · intro y hy
        rcases List.mem_cons.1 hy with rfl | hy
        · exact h1.1
        · exact h2 y hy
      · have := GT.parts_pos x (d + 1)
        simp only [List.length_cons]
        simp only at h3
        omega
    · rename_i hr; exact absurd h hr
theorem GT.parts_kids {k a b : Int} {s : List GT} {d : Nat} (h : (GT.parts (.mk k a b s) d).2 = true) : s.length ≤ 29 ∧ d < 6 ∧ ∀ x ∈ s, (GT.parts x (d + 1)).2 = true := by
  simp only [GT.parts, Bool.and_eq_true, decide_eq_true_eq] at h
  obtain ⟨h1, h2, h3⟩ := GT.partsL_ok s d _ h.1
  simp only [decide_eq_true_eq] at h1
  have := h.2
  simp only at h3
  exact ⟨by omega, h1, h2⟩
theorem GT.check_parts {g : GT} (h : GT.check g = 0) : (GT.parts g 0).2 = true := by
  unfold GT.check at h
  split at h
  · assumption
  · omega
section
variable {σ : Type} {B k p1 p2 : Nat} {st : Int → σ → Except Int (Int × σ)} {J : σ → Nat → World → Prop} {bud : σ → Nat}
theorem made_any (C : Cho B k p1 p2 st J bud) (w0 : World) (h0B : w0.heap.size ≤ B) (x : GT) : ∀ (d : Nat) (q : σ) (g : Nat) (w : World) (v : Value), GT.eachErr x = 0 → (GT.parts x d).2 = true → GT.cost x ≤ bud q → J q g w → Below w0.heap.size w0 w → GenAt w0 v x →
    Calls Try.prog 37 #[.func (.func k) #[] #[.pointer (some ⟨p1, 0, none⟩), .pointer (some ⟨p2, 0, none⟩)], v] w (Md w.heap.size p1 p2 J (GT.play st x q) g w) := by
  induction x using GT.ind with
  | h kk a b s ih =>
    intro d q g w v he hp hbq hJ hw hg
    obtain ⟨k', a', b', s', ad, cap, hmk, rfl, hk, ha, hb, hl, hm, hs⟩ := hg.form
    obtain ⟨rfl, rfl, rfl, rfl⟩ := GT.mk.inj hmk
    have hks := GT.ok_kids he
    have hpb : ∀ x ∈ s, ∀ q t q', GT.play st x q = .ok (t, q') → bud q ≤ bud q' + GT.cost x := fun x hx => GT.play_bud st bud C.bd C.bdd x (hks x hx)
    obtain ⟨hlen, hd, hpk⟩ := GT.parts_kids hp
    rcases GT.one_cases (GT.ok_one he) with ⟨rfl, h1, h2, h3⟩ | ⟨rfl, h0, h0', h1, h2, h3⟩ | rfl | ⟨rfl, h1, h2, h3⟩ | ⟨rfl, h1⟩
    · exact made_1 C q g w hJ a b ad cap s.length h2 h3 s
    · exact made_2 C q (by simpa [GT.cost] using hbq) g w hJ a b ad cap s.length h0' h1 h2 h3 s
    · exact made_3 C w0 h0B q g w hJ hw a b ad cap s hs (by omega) (by simpa [GT.cost] using hbq) hpb (fun y hy q g w v h0 h1 h2 h3 => ih y hy (d + 1) q g w v (hks y hy) (hpk y hy) h0 h1 h2 h3)
    · match s, h1, hs, ih, hks, hpk, hlen, he, hp, hg, hl, hmk, hpb, hbq with
      | [y], _, hs, ih, hks, hpk, _, _, _, _, _, _, hpb, hbq =>
        exact made_4 C w0 h0B q g w hJ hw a b ad cap y hs h2 h3 (by simpa [GT.cost, GT.costL] using hbq) (hpb y (by simp)) (fun q g w v h0 h1 h2 h3 => ih y (by simp) (d + 1) q g w v (hks y (by simp)) (hpk y (by simp)) h0 h1 h2 h3)
    · exact made_5 C w0 h0B q g w hJ hw a b ad cap s hs h1 (by omega) (by simpa [GT.cost] using hbq) (fun y hy q g w v h0 h1 h2 h3 => ih y hy (d + 1) q g w v (hks y hy) (hpk y hy) h0 h1 h2 h3)
end
end Go.Proofs.Ytocngjpjheockaa
