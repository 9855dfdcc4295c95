/- Small laws for the walks, over any program. -/
import Derived.WalkKit
import Derived.WalkSpells
import Derived.WalkLawsBesides
import Derived.RegionTactic
import Derived.StillTailTactics
import Derived.Deep.RegionWith
import Derived.Deep.QuietTactic
import Derived.BigQuiet
import Derived.Lib.Hide
import Derived.Lib.SmallJoins
import Derived.ProofKit
import Derived.OpenShut
namespace Go.Proofs.Ytocngjpjheockaa
set_option maxRecDepth 100000
open Go.RowKit

/-- A region that draws its order, all of whose operations but a tail leave the world as it was: walked once. -/
theorem region_still_tail {P : Program} {id : Nat} {Q : Exit → Act → World → Prop} {a : Act} {w : World} {l : List Oper} (n : Nat) (hm : P.follows .mixedOrders = true) (hB : Region.lexTailB .any l.toArray n = true)
    (h : wpStill P l.toArray w.drew (fun a' => wpList P l.toArray Q (l.drop n) a' w.drew) (l.take n) a) : (Code.region id l.toArray true).wp P Q a w :=
  wp_region_still_tail n hm hB h

theorem add64 (s g : Nat) : IntKind.u64.wrap ((s : Int) + (g : Int)) = (((s + g) % 18446744073709551616 : Nat) : Int) := by
  rw [IntKind.wrap_u64]; omega
theorem toNat_wrap64 (n : Int) : IntKind.u64.wrap n = (((n % 18446744073709551616).toNat : Nat) : Int) := by
  rw [IntKind.wrap_u64]; omega

/-! ### a block of cells, known whole -/
def Blk (w : World) (b : Nat) (cs : Array Value) (t : TypeId) : Prop := w.heap[b]? = some (.cells cs t (0, 0))
section
variable {w w' : World} {b : Nat} {cs : Array Value} {t : TypeId}
theorem Blk.cell (h : Blk w b cs t) (j : Nat) : w.cell? ⟨b, j, none⟩ = cs[j]? := Joins.cell_of_block h j
theorem Blk.unfrozen (h : Blk w b cs t) (j : Nat) : w.frozen? ⟨b, j, none⟩ = false := Joins.unfrozen_of_block h j
theorem Blk.lt (h : Blk w b cs t) : b < w.heap.size := (Array.getElem?_eq_some_iff.1 h).1
theorem Blk.below {B : Nat} (h : Blk w b cs t) (hb : Below B w w') (hB : b < B) : Blk w' b cs t := (hb.block b hB).trans h
theorem Blk.ext (h : Blk w b cs t) (hb : Below w.heap.size w w') : Blk w' b cs t := h.below hb h.lt
theorem Blk.new (w : World) (cs : Array Value) (t : TypeId) : Blk (w.alloc (.cells cs t)) w.heap.size cs t := heap_alloc_new w _
theorem Blk.alloc (h : Blk w b cs t) (o : Obj) : Blk (w.alloc o) b cs t := (Below.heap_alloc w o b h.lt).trans h
theorem Blk.drew (h : Blk w b cs t) : Blk w.drew b cs t := h
theorem Blk.set (h : Blk w b cs t) (j : Nat) (v : Value) : Blk (w.setCell ⟨b, j, none⟩ v) b (cs.setIfInBounds j v) t := Joins.block_setCell h v
theorem Blk.other (h : Blk w b cs t) {a : Addr} (ha : b ≠ a.block) (v : Value) : Blk (w.setCell a v) b cs t := (Below.heap_setCell w a v b ha).trans h
end
theorem Blk.oth {w : World} {b : Nat} {cs : Array Value} {t : TypeId} (h : Blk w b cs t) (b' j : Nat) (hne : b ≠ b') (v : Value) : Blk (w.setCell ⟨b', j, none⟩ v) b cs t := h.other hne v
theorem size_drew (w : World) : w.drew.heap.size = w.heap.size := rfl
theorem size_drewN (w : World) (n : Nat) : (w.drewN n).heap.size = w.heap.size := rfl
theorem size_setCell (w : World) (a : Addr) (v : Value) : (w.setCell a v).heap.size = w.heap.size := by simp [World.setCell]
theorem zA (w : World) (o : Obj) : (w.alloc o).heap.size = w.heap.size + 1 := World.size_alloc w o
theorem zD (w : World) : w.drew.heap.size = w.heap.size := rfl
theorem zN (w : World) (n : Nat) : (w.drewN n).heap.size = w.heap.size := rfl
theorem zS (w : World) (a : Addr) (v : Value) : (w.setCell a v).heap.size = w.heap.size := size_setCell w a v

/-! ### values that read as data -/
def In64 (n : Int) : Prop := -9223372036854775808 ≤ n ∧ n ≤ 9223372036854775807
def IntAt (v : Value) (n : Int) : Prop := v = .int .i64 n ∧ In64 n
def U64At (v : Value) (n : Nat) : Prop := v = .int .u64 n ∧ n < 18446744073709551616
def SeedAt (v : Value) (x : Nat × Nat) : Prop := v = .agg #[.int .u64 x.1, .int .u64 x.2] ∧ x.1 < 18446744073709551616 ∧ x.2 < 18446744073709551616
/-- A slice of integers: nil, or so many cells one after the other. -/
def IntsAt (w : World) (v : Value) (l : List Int) : Prop :=
  (∀ n ∈ l, In64 n) ∧ ((v = .slice none 0 0 ∧ l = []) ∨
    ∃ a cap, v = .slice (some a) l.length cap ∧ l.length ≤ cap ∧ cap ≤ maxLen ∧ ∀ i, i < l.length → w.cell? (a.add i) = some (.int .i64 (l.getD i 0)))
theorem IntsAt.below {B : Nat} {w w' : World} {v : Value} {l : List Int} (h : IntsAt w v l) (hb : Below B w w') (hB : w.heap.size ≤ B) : IntsAt w' v l := by
  refine ⟨h.1, ?_⟩
  rcases h.2 with h | ⟨a, cap, h1, h2, h3, h4⟩
  · exact .inl h
  · refine .inr ⟨a, cap, h1, h2, h3, fun i hi => ?_⟩
    rw [hb.cell (Nat.lt_of_lt_of_le (World.block_lt_of_cell? w _ (h4 i hi)) hB)]
    exact h4 i hi
theorem IntsAt.ext {w w' : World} {v : Value} {l : List Int} (h : IntsAt w v l) (hb : Below w.heap.size w w') : IntsAt w' v l := h.below hb (Nat.le_refl _)

/-- The slice's own form; its cells where there is one. -/
theorem IntsAt.form {w : World} {v : Value} {l : List Int} (h : IntsAt w v l) : ∃ ad cap, v = .slice ad l.length cap ∧ l.length ≤ cap ∧ cap ≤ maxLen ∧ (∀ n ∈ l, In64 n) ∧
    (0 < l.length → ∃ b off, ad = some ⟨b, off, none⟩ ∧ b < w.heap.size ∧ ∀ i, i < l.length → w.cell? ⟨b, off + i, none⟩ = some (.int .i64 (l.getD i 0))) := by
  obtain ⟨h0, ⟨rfl, rfl⟩ | ⟨a, cap, rfl, h2, h3, h4⟩⟩ := h
  · exact ⟨none, 0, rfl, by simp, by unfold maxLen; omega, by simp, by simp⟩
  · refine ⟨some a, cap, rfl, h2, h3, h0, fun hp => ?_⟩
    obtain ⟨b, off, rfl, hc⟩ := ints_at h4 hp
    exact ⟨b, off, rfl, World.block_lt_of_cell? w _ (hc 0 hp), hc⟩

/-- Behind a call that leaves what was there alone: two rules for the walk (old cells, old marks) and the sizes. -/
theorem bcell {W w1 : World} (hb : Below W.heap.size W w1) : (∀ b o, b < W.heap.size → w1.cell? ⟨b, o, none⟩ = W.cell? ⟨b, o, none⟩) ∧ (∀ b o, b < W.heap.size → w1.frozen? ⟨b, o, none⟩ = W.frozen? ⟨b, o, none⟩) ∧ W.heap.size ≤ w1.heap.size :=
  ⟨fun b o h => hb.cell (p := ⟨b, o, none⟩) h, fun b o h => hb.frozen (p := ⟨b, o, none⟩) h, hb.size⟩
end Go.Proofs.Ytocngjpjheockaa
