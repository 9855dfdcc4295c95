import Derived.Test.YtcecpggkeaohnaaDoorGenN
import Derived.Test.YtcecpggkeaohnaaDoorPCost
import Derived.Test.YtcecpggkeaohnaaDoorRegn
import Derived.Deep.AppendLies
namespace Go.Proofs.YtcecpggkeaohnaaDoor
set_option maxRecDepth 100000
open Go.RowKit
set_option linter.unusedSimpArgs false
set_option linter.unusedVariables false
/-! ### a value, all of whose lists lie in these blocks -/
inductive ValIn (S : Nat → Prop) (w : World) : Value → VT → Prop
  | mk {l : Bool} {n : Int} {s : List VT} {ad : Option Addr} {cap : Nat} (hn : In64 n) (hl : s.length ≤ cap) (hm : cap ≤ 9223372036854775807) (vs : Nat → Value)
      (cells : 0 < s.length → ∃ bl off, ad = some ⟨bl, off, none⟩ ∧ bl < w.heap.size ∧ S bl ∧ ∀ i, i < s.length → ∃ c0 c1 c2, vs i = .agg #[c0, c1, c2] ∧ w.cell? ⟨bl, off + i * 3, none⟩ = some c0 ∧
        w.cell? ⟨bl, off + i * 3 + 1, none⟩ = some c1 ∧ w.cell? ⟨bl, off + i * 3 + 2, none⟩ = some c2)
      (kids : ∀ i (h : i < s.length), ValIn S w (vs i) s[i]) : ValIn S w (.agg #[.bool l, .int .i64 n, .slice ad s.length cap]) (.mk l n s)
theorem ValIn.keep {S S' : Nat → Prop} {w w' : World} {v : Value} {t : VT} (h : ValIn S w v t) (hz : w.heap.size ≤ w'.heap.size) (hS : ∀ b, S b → b < w.heap.size → S' b ∧ w'.heap[b]? = w.heap[b]?) : ValIn S' w' v t := by
  induction h with
  | mk hn hl hm vs cells kids ih =>
    refine .mk hn hl hm vs (fun hp => ?_) (fun i hi => ih i hi)
    obtain ⟨bl, off, e, hlt, hs, hc⟩ := cells hp
    obtain ⟨h1, h2⟩ := hS bl hs hlt
    refine ⟨bl, off, e, Nat.lt_of_lt_of_le hlt hz, h1, fun i hi => ?_⟩
    obtain ⟨c0, c1, c2, hv, k0, k1, k2⟩ := hc i hi
    have e : ∀ o, w'.cell? ⟨bl, o, none⟩ = w.cell? ⟨bl, o, none⟩ := fun o => World.cell?_of_block (a := ⟨bl, o, none⟩) h2
    exact ⟨c0, c1, c2, hv, (e _).trans k0, (e _).trans k1, (e _).trans k2⟩
abbrev ValAt (w : World) (v : Value) (t : VT) : Prop := ValIn (fun _ => True) w v t
theorem ValIn.at {S : Nat → Prop} {w : World} {v : Value} {t : VT} (h : ValIn S w v t) : ValAt w v t := h.keep (Nat.le_refl _) (fun _ _ _ => ⟨trivial, rfl⟩)
theorem ValIn.ext {S : Nat → Prop} {w w' : World} {v : Value} {t : VT} (h : ValIn S w v t) (hb : Below w.heap.size w w') : ValIn S w' v t := h.keep hb.size (fun b hs hlt => ⟨hs, hb.block b hlt⟩)
theorem ValIn.shape {S : Nat → Prop} {w : World} {v : Value} {t : VT} (h : ValIn S w v t) : ∃ l n k ad cap, v = .agg #[.bool l, .int .i64 n, .slice ad k cap] := by
  cases h; exact ⟨_, _, _, _, _, rfl⟩
theorem ValIn.leaf {S : Nat → Prop} {w : World} (l : Bool) (n : Int) (hn : In64 n) : ValIn S w (.agg #[.bool l, .int .i64 n, .slice none 0 0]) (.mk l n []) :=
  ValIn.mk (s := []) hn (by simp) (by simp) (fun _ => .nilIface) (fun h => absurd h (by simp)) (fun i hi => absurd hi (by simp))

/-! ### worlds -/
/-- From w to w' only what a choice may change has changed: two variables, and the array that one of them holds. -/
structure Own (p1 p2 g g' : Nat) (w w' : World) : Prop where
  os : w'.os = w.os
  tape : w'.tape = w.tape
  output : w'.output = w.output
  size : w.heap.size ≤ w'.heap.size
  blk : ∀ b, b < w.heap.size → b ≠ p1 → b ≠ p2 → b ≠ g → w'.heap[b]? = w.heap[b]?
  new : g' = g ∨ w.heap.size ≤ g'
/-- From w to w' blocks below lo are as they were, and so are these. -/
structure Mine (lo p1 p2 g : Nat) (w w' : World) : Prop where
  below : Below lo w w'
  keep : ∀ b, b < w.heap.size → (b = p1 ∨ b = p2 ∨ b = g) → w'.heap[b]? = w.heap[b]?
section
variable {p1 p2 g g' g1 g2 lo : Nat} {w w' w1 w2 : World}
theorem Own.refl (p1 p2 g : Nat) (w : World) : Own p1 p2 g g w w := ⟨rfl, rfl, rfl, Nat.le_refl _, fun _ _ _ _ _ => rfl, .inl rfl⟩
theorem Own.trans (h : Own p1 p2 g g1 w w1) (k : Own p1 p2 g1 g2 w1 w2) : Own p1 p2 g g2 w w2 := by
  refine ⟨k.os.trans h.os, k.tape.trans h.tape, k.output.trans h.output, Nat.le_trans h.size k.size, fun b hb h1 h2 h3 => ?_, ?_⟩
  · have hn : b ≠ g1 := by rcases h.new with e | e <;> omega
    exact (k.blk b (Nat.lt_of_lt_of_le hb h.size) h1 h2 hn).trans (h.blk b hb h1 h2 h3)
  · have := h.size
    rcases k.new with e | e
    · rw [e]; exact h.new
    · right; omega
theorem Own.mine (h : Own p1 p2 g g' w w1) (k : Mine lo p1 p2 g' w1 w2) (hlo : w.heap.size ≤ lo) : Own p1 p2 g g' w w2 :=
  ⟨k.below.os.trans h.os, k.below.tape.trans h.tape, k.below.output.trans h.output, Nat.le_trans h.size k.below.size, fun b hb h1 h2 h3 => (k.below.block b (by omega)).trans (h.blk b hb h1 h2 h3), h.new⟩
theorem Mine.refl (lo p1 p2 g : Nat) (w : World) : Mine lo p1 p2 g w w := ⟨Below.refl _ _, fun _ _ _ => rfl⟩
theorem Mine.trans (h : Mine lo p1 p2 g w w1) (k : Mine lo p1 p2 g w1 w2) : Mine lo p1 p2 g w w2 :=
  ⟨h.below.trans k.below, fun b hb e => (k.keep b (Nat.lt_of_lt_of_le hb h.below.size) e).trans (h.keep b hb e)⟩
theorem Mine.of_below (h : Below w.heap.size w w') (hlo : lo ≤ w.heap.size) : Mine lo p1 p2 g w w' := ⟨h.mono hlo, fun b hb _ => h.block b hb⟩
theorem Mine.set (h : Mine lo p1 p2 g w w1) {b : Nat} (hb : lo ≤ b) (h1 : b ≠ p1) (h2 : b ≠ p2) (h3 : b ≠ g) (j : Nat) (v : Value) : Mine lo p1 p2 g w (w1.setCell ⟨b, j, none⟩ v) := by
  refine h.trans ⟨(Below.refl _ _).setCell hb v, fun c hc e => ?_⟩
  exact Below.heap_setCell w1 ⟨b, j, none⟩ v c (by rcases e with e | e | e <;> (rw [e]; dsimp only; omega))
theorem Mine.drew (h : Mine lo p1 p2 g w w1) : Mine lo p1 p2 g w w1.drew := ⟨Below.drew h.below, h.keep⟩
theorem Mine.grown (h : Mine lo p1 p2 g w w1) {r : Option Nat} (hg : w1.grownBy w2 r) (hlo : lo ≤ w1.heap.size) (hr : ∀ b, r = some b → lo ≤ b ∧ b ≠ p1 ∧ b ≠ p2 ∧ b ≠ g) (hz : w.heap.size ≤ w1.heap.size) : Mine lo p1 p2 g w w2 := by
  refine h.trans ⟨(Below.refl _ _).grown hg hlo (fun k hk => (hr k hk).1), fun b hb e => ?_⟩
  refine hg.block b hb (fun hk => ?_)
  have := hr b hk.symm
  omega
end
/-! ### a chooser -/
structure Cho {σ : Type} (B k p1 p2 : Nat) (st : Int → σ → Except Int (Int × σ)) (J : σ → Nat → World → Prop) (bud : σ → Nat) : Prop where
  enter : ∀ args w, Sem.run Tryd.prog (callFunc k args) w = .ok (.enter k args) w
  bd : ∀ m q c q', 0 ≤ m → st m q = .ok (c, q') → 0 ≤ c ∧ c ≤ m
  bdd : ∀ m q c q', 0 ≤ m → st m q = .ok (c, q') → bud q ≤ bud q' + 1
  stay : ∀ q g w w', J q g w → w.heap.size ≤ w'.heap.size → (∀ b, b < w.heap.size → (b < B ∨ b = p1 ∨ b = p2 ∨ b = g) → w'.heap[b]? = w.heap[b]?) → J q g w'
  lt : ∀ q g w, J q g w → B ≤ p1 ∧ p1 < w.heap.size ∧ B ≤ p2 ∧ p2 < w.heap.size ∧ B ≤ g ∧ g < w.heap.size
  call : ∀ m q g w, 0 ≤ m → m ≤ 1000 → 1 ≤ bud q → J q g w → Calls Tryd.prog k #[.int .i64 m, .pointer (some ⟨p1, 0, none⟩), .pointer (some ⟨p2, 0, none⟩)] w fun e w' => match st m q with
    | .ok (c, q') => e = .returned (.int .i64 c) ∧ ∃ g', J q' g' w' ∧ Own p1 p2 g g' w w'
    | .error x => e = .panicked [{ v := .iface 63 (.int .i64 x), recovered := false }] ∧ ∃ g', Own p1 p2 g g' w w'
section
variable {σ : Type} {B k p1 p2 : Nat} {st : Int → σ → Except Int (Int × σ)} {J : σ → Nat → World → Prop} {bud : σ → Nat}
theorem Cho.mine (C : Cho B k p1 p2 st J bud) {q : σ} {g lo : Nat} {w w' : World} (h : J q g w) (k : Mine lo p1 p2 g w w') (hlo : B ≤ lo) : J q g w' :=
  C.stay q g w w' h k.below.size (fun b hb e => by
    rcases e with e | e
    · exact k.below.block b (by omega)
    · exact k.keep b hb e)
/-- What is made: by the data. -/
def Md (lo p1 p2 : Nat) (J : σ → Nat → World → Prop) (r : Except Int (VT × σ)) (g : Nat) (w : World) (e : Ending) (w' : World) : Prop := match r with
  | .ok (t, q') => ∃ u, e = .returned u ∧ ∃ g', J q' g' w' ∧ Own p1 p2 g g' w w' ∧ ∃ S : Nat → Prop, (∀ b, S b → lo ≤ b ∧ b < w'.heap.size ∧ b ≠ g') ∧ ValIn S w' u t
  | .error x => e = .panicked [{ v := .iface 63 (.int .i64 x), recovered := false }] ∧ ∃ g', Own p1 p2 g g' w w'
end
end Go.Proofs.YtcecpggkeaohnaaDoor
