/- Slices of slices that a call makes: of generators, of numbers. -/
import Derived.Test.YtjobgkcoblpbcaaGens
import Derived.Deep.AppendLies
namespace Go.Proofs.Ytjobgkcoblpbcaa
open Go.RowKit
set_option linter.unusedSimpArgs false
set_option linter.unusedVariables false
theorem Blk.newAt {w : World} {cs : Array Value} {t : TypeId} {n : Nat} (h : n = w.heap.size) : Blk (w.alloc (.cells cs t)) n cs t := by subst h; exact Blk.new _ _ _
/-- A way to read a cell that leans on some blocks alone. -/
structure Reads {α : Type} (R : World → (Nat → Prop) → Value → α → Prop) : Prop where
  keep : ∀ {w w' : World} {S S' : Nat → Prop} {v : Value} {x : α}, R w S v x → w.heap.size ≤ w'.heap.size → (∀ b, S b → b < w.heap.size → S' b ∧ w'.heap[b]? = w.heap[b]?) → R w' S' v x
  one : ∀ {w : World} {S : Nat → Prop} {v : Value} {x : α}, R w S v x → v.oneCell' = true
/-- A row of the call's own, each of whose cells reads so, outside of the row's own block. -/
def OwnRw {α : Type} (R : World → (Nat → Prop) → Value → α → Prop) (e : TypeId) (w : World) (lo : Nat) (v : Value) (B : List α) : Prop :=
  ∃ cs, w.ownsRow lo e 1 v B.length cs ∧ ∀ i (h : i < B.length), ∃ u, cs[i]? = some u ∧ R w (fun b => lo ≤ b ∧ v.ownBlock ≠ some b) u B[i]
section
variable {α : Type} {R : World → (Nat → Prop) → Value → α → Prop} {e : TypeId} {w w' : World} {lo : Nat} {v v' : Value} {B : List α}
theorem OwnRw.nil (R : World → (Nat → Prop) → Value → α → Prop) (e : TypeId) (w : World) (lo : Nat) : OwnRw R e w lo (.slice none 0 0) [] := ⟨[], World.ownsRow_nil _ _ _ _, fun i h => absurd h (by simp)⟩
theorem OwnRw.lt (h : OwnRw R e w lo v B) : ∀ b, v.ownBlock = some b → lo ≤ b ∧ b < w.heap.size := by
  obtain ⟨cs, hown, _⟩ := h
  exact World.ownsRow.lt hown
theorem OwnRw.keep (K : Reads R) (h : OwnRw R e w lo v B) (hb : Below w.heap.size w w') : OwnRw R e w' lo v B := by
  obtain ⟨cs, hown, hc⟩ := h
  refine ⟨cs, ⟨hown.1, ?_⟩, fun i hi => ?_⟩
  · rcases hown.2 with h2 | ⟨g, cap, cur, hv, hg, hh, r⟩
    · exact .inl h2
    · exact .inr ⟨g, cap, cur, hv, hg, (hb.block g (Array.getElem?_eq_some_iff.1 hh).1).trans hh, r⟩
  · obtain ⟨u, hu, hR⟩ := hc i hi
    exact ⟨u, hu, K.keep hR hb.size (fun b hs hl => ⟨hs, hb.block b hl⟩)⟩
theorem OwnRw.push (K : Reads R) {cs : List Value} {u : Value} {x : α} (h : w.ownsRow lo e 1 v B.length cs) (hc : ∀ i (h : i < B.length), ∃ u, cs[i]? = some u ∧ R w (fun b => lo ≤ b ∧ v.ownBlock ≠ some b) u B[i])
    (hown : w'.ownsRow lo e 1 v' (B.length + 1) (cs ++ [u])) (hg : w.grownBy w' v.ownBlock) (hat : v'.ownBlock = v.ownBlock ∨ v'.ownBlock = some w.heap.size) (hx : R w (fun b => lo ≤ b ∧ v.ownBlock ≠ some b) u x) : OwnRw R e w' lo v' (B ++ [x]) := by
  have hcl : cs.length = B.length := by have := h.1; omega
  have hmv : ∀ {u : Value} {x : α}, R w (fun b => lo ≤ b ∧ v.ownBlock ≠ some b) u x → R w' (fun b => lo ≤ b ∧ v'.ownBlock ≠ some b) u x := fun hR =>
    K.keep hR hg.size (fun b hs hl => ⟨⟨hs.1, by rcases hat with e | e <;> rw [e]; exact hs.2; simp; omega⟩, hg.block b hl (fun e => hs.2 e.symm)⟩)
  refine ⟨cs ++ [u], by simpa using hown, fun i hi => ?_⟩
  by_cases hlt : i < B.length
  · obtain ⟨y, hy, hR⟩ := hc i hlt
    refine ⟨y, by rw [List.getElem?_append_left (by omega)]; exact hy, ?_⟩
    rw [List.getElem_append_left hlt]
    exact hmv hR
  · have : i = B.length := by simp at hi; omega
    subst this
    refine ⟨u, by rw [List.getElem?_append_right (by omega), hcl, Nat.sub_self]; rfl, ?_⟩
    rw [List.getElem_append_right (by omega)]
    simp only [Nat.sub_self, List.getElem_cons_zero]
    exact hmv hx
/-- Its form, and its cells. -/
theorem OwnRw.form (h : OwnRw R e w lo v B) : ∃ ad cap, v = .slice ad B.length cap ∧ B.length ≤ cap ∧ cap ≤ maxLen ∧ (ad = none → cap = 0) ∧ (0 < B.length → ∃ bl, ad = some ⟨bl, 0, none⟩ ∧ v.ownBlock = some bl ∧ bl < w.heap.size ∧ ∀ i (h : i < B.length), ∃ u, w.cell? ⟨bl, i, none⟩ = some u ∧ R w (fun b => lo ≤ b ∧ v.ownBlock ≠ some b) u B[i]) := by
  obtain ⟨cs, hown, hc⟩ := h
  rcases hown.2 with ⟨rfl, h0⟩ | ⟨g, cap, cur, rfl, hg, hh, hn, hm, hcs, htake⟩
  · exact ⟨none, 0, by rw [h0], by omega, by unfold maxLen; omega, fun _ => rfl, fun h => by omega⟩
  · refine ⟨_, cap, rfl, hn, hm, (fun e => by cases e), fun hp => ⟨g, rfl, rfl, (Array.getElem?_eq_some_iff.1 hh).1, fun i hi => ?_⟩⟩
    obtain ⟨u, hu, hR⟩ := hc i hi
    refine ⟨u, ?_, hR⟩
    rw [cell_of_row w g i cur e (0, 0) hh]
    rw [← htake] at hu
    rw [List.getElem?_take] at hu
    split at hu
    · simpa using hu
    · simp at hu
end
/-! ### cells that are slices of generators, of numbers -/
def GsV (w0 w : World) (S : Nat → Prop) (v : Value) (s : List GT) : Prop := ∃ ad cap, v = .slice ad s.length cap ∧ s.length ≤ cap ∧ cap ≤ maxLen ∧ (ad = none → cap = 0) ∧ GsAt w0 w S ad s
theorem GsV.nil (w0 w : World) (S : Nat → Prop) : GsV w0 w S (.slice none 0 0) [] := ⟨none, 0, rfl, by simp, by unfold maxLen; omega, fun _ => rfl, GsAt.nil _ _ _ _⟩
theorem GsV.reads (w0 : World) : Reads (GsV w0) where
  keep := fun h hz hS => by
    obtain ⟨ad, cap, e, h1, h2, h3, h4⟩ := h
    exact ⟨ad, cap, e, h1, h2, h3, h4.keep hz hS⟩
  one := fun h => by
    obtain ⟨ad, cap, rfl, _⟩ := h
    rfl
theorem OwnGs.v {w0 w : World} {lo : Nat} {v : Value} {s : List GT} (h : OwnGs w0 w lo v s) : GsV w0 w (fun b => v.ownBlock = some b) v s := by
  obtain ⟨ad, cap, e, h1, h2, h3, h4, _⟩ := h.form
  exact ⟨ad, cap, e, h1, h2, h3, h4⟩
theorem GsV.src {w0 w : World} {S : Nat → Prop} {v : Value} {s : List GT} (h : GsV w0 w S v s) : ∃ cs, CellsOf w0 cs s ∧ SrcAt w v s.length cs := by
  obtain ⟨ad, cap, rfl, h1, h2, h3, h4⟩ := h
  exact h4.src h3
def IntsS (w : World) (S : Nat → Prop) (v : Value) (l : List Int) : Prop := (∀ n ∈ l, In64 n) ∧ ∃ ad cap, v = .slice ad l.length cap ∧ l.length ≤ cap ∧ cap ≤ maxLen ∧ (ad = none → cap = 0) ∧
  (0 < l.length → ∃ bl off, ad = some ⟨bl, off, none⟩ ∧ bl < w.heap.size ∧ S bl ∧ ∀ i, i < l.length → w.cell? ⟨bl, off + i, none⟩ = some (.int .i64 (l.getD i 0)))
theorem IntsS.reads : Reads IntsS where
  keep := fun {w w' S S' v l} h hz hS => by
    obtain ⟨h0, ad, cap, e, h1, h2, h3, h4⟩ := h
    refine ⟨h0, ad, cap, e, h1, h2, h3, fun hp => ?_⟩
    obtain ⟨bl, off, e, hlt, hs, hc⟩ := h4 hp
    obtain ⟨g1, g2⟩ := hS bl hs hlt
    exact ⟨bl, off, e, Nat.lt_of_lt_of_le hlt hz, g1, fun i hi => (World.cell?_of_block (a := ⟨bl, _, none⟩) g2).trans (hc i hi)⟩
  one := fun h => by
    obtain ⟨_, ad, cap, rfl, _⟩ := h
    rfl
theorem IntsS.at {w : World} {S : Nat → Prop} {v : Value} {l : List Int} (h : IntsS w S v l) : IntsAt w v l := by
  obtain ⟨h0, ad, cap, rfl, h1, h2, h3, h4⟩ := h
  refine ⟨h0, ?_⟩
  cases ad with
  | none =>
    have hc := h3 rfl
    have : l = [] := List.length_eq_zero_iff.1 (by omega)
    subst this
    subst hc
    exact .inl ⟨rfl, rfl⟩
  | some a =>
    refine .inr ⟨a, cap, rfl, h1, h2, fun i hi => ?_⟩
    obtain ⟨bl, off, e, _, _, hc⟩ := h4 (by omega)
    obtain rfl := Option.some.inj e
    rw [addr_add]
    exact hc i hi
theorem OwnInts.s {w : World} {lo : Nat} {v : Value} {l : List Int} (h : OwnInts w lo v l) (hi : ∀ n ∈ l, In64 n) : IntsS w (fun b => v.ownBlock = some b) v l := by
  have ha := h.at hi
  refine ⟨hi, ?_⟩
  rcases h.2 with ⟨rfl, h0⟩ | ⟨g, cap, cur, rfl, hg, hh, hn, hm, hcs, htake⟩
  · exact ⟨none, 0, by rw [h0], by omega, by unfold maxLen; omega, fun _ => rfl, fun h => by omega⟩
  · refine ⟨_, cap, rfl, hn, hm, (fun e => by cases e), fun hp => ⟨g, 0, rfl, (Array.getElem?_eq_some_iff.1 hh).1, rfl, fun i hi => ?_⟩⟩
    rcases ha.2 with ⟨e, _⟩ | ⟨a, cap', e, _, _, hc⟩
    · cases e
    · simp only [Value.slice.injEq, Option.some.injEq] at e
      obtain ⟨rfl, _, _⟩ := e
      have := hc i hi
      rw [addr_add] at this
      exact this
theorem IntsS.mono {w : World} {S S' : Nat → Prop} {v : Value} {l : List Int} (h : IntsS w S v l) (hS : ∀ b, S b → b < w.heap.size → S' b) : IntsS w S' v l := IntsS.reads.keep h (Nat.le_refl _) (fun b hs hl => ⟨hS b hs hl, rfl⟩)
theorem GsV.mono {w0 w : World} {S S' : Nat → Prop} {v : Value} {l : List GT} (h : GsV w0 w S v l) (hS : ∀ b, S b → b < w.heap.size → S' b) : GsV w0 w S' v l := (GsV.reads w0).keep h (Nat.le_refl _) (fun b hs hl => ⟨hS b hs hl, rfl⟩)
/-- A slice of slices, as it reads. -/
def RwAt {α : Type} (R : World → (Nat → Prop) → Value → α → Prop) (w : World) (S : Nat → Prop) (v : Value) (B : List α) : Prop := ∃ ad cap, v = .slice ad B.length cap ∧ B.length ≤ cap ∧ cap ≤ maxLen ∧ (ad = none → cap = 0) ∧
  (0 < B.length → ∃ bl off, ad = some ⟨bl, off, none⟩ ∧ bl < w.heap.size ∧ S bl ∧ ∀ i (h : i < B.length), ∃ u, w.cell? ⟨bl, off + i, none⟩ = some u ∧ R w S u B[i])
theorem RwAt.keep {α : Type} {R : World → (Nat → Prop) → Value → α → Prop} (K : Reads R) {w w' : World} {S S' : Nat → Prop} {v : Value} {B : List α} (h : RwAt R w S v B) (hz : w.heap.size ≤ w'.heap.size) (hS : ∀ b, S b → b < w.heap.size → S' b ∧ w'.heap[b]? = w.heap[b]?) : RwAt R w' S' v B := by
  obtain ⟨ad, cap, e, h1, h2, h3, h4⟩ := h
  refine ⟨ad, cap, e, h1, h2, h3, fun hp => ?_⟩
  obtain ⟨bl, off, e, hlt, hs, hc⟩ := h4 hp
  obtain ⟨g1, g2⟩ := hS bl hs hlt
  refine ⟨bl, off, e, Nat.lt_of_lt_of_le hlt hz, g1, fun i hi => ?_⟩
  obtain ⟨u, hu, hR⟩ := hc i hi
  exact ⟨u, (World.cell?_of_block (a := ⟨bl, _, none⟩) g2).trans hu, K.keep hR hz hS⟩
theorem OwnRw.at {α : Type} {R : World → (Nat → Prop) → Value → α → Prop} (K : Reads R) {e : TypeId} {w : World} {lo : Nat} {v : Value} {B : List α} (h : OwnRw R e w lo v B) : RwAt R w (fun b => lo ≤ b) v B := by
  have hlt := h.lt
  obtain ⟨ad, cap, e, h1, h2, h3, h4⟩ := h.form
  refine ⟨ad, cap, e, h1, h2, h3, fun hp => ?_⟩
  obtain ⟨bl, e, ho, hl, hc⟩ := h4 hp
  refine ⟨bl, 0, e, hl, (hlt bl ho).1, fun i hi => ?_⟩
  obtain ⟨u, hu, hR⟩ := hc i hi
  rw [Nat.zero_add]
  exact ⟨u, hu, K.keep hR (Nat.le_refl _) (fun b hs _ => ⟨hs.1, rfl⟩)⟩
theorem info_gens : (Try.prog.info? 41).map (fun i => (i.zero, i.size, i.bytes)) = some (some (.slice none 0 0), 1, 24) := by kernel_rfl
theorem info_ints : (Try.prog.info? 38).map (fun i => (i.zero, i.size, i.bytes)) = some (some (.slice none 0 0), 1, 24) := by kernel_rfl
/-- One more row. -/
theorem append_rw {α : Type} {R : World → (Nat → Prop) → Value → α → Prop} (K : Reads R) {w : World} {ops : Array Oper} {rest : List Oper} {o : Oper} {a : Act} {Q : Exit → Act → World → Prop} (hgd : o.guard = none) (s x : Operand) (t e : TypeId)
    (ho : o.op = .call { callee := .builtin .append, args := #[s, x], argTypes := #[t, t] }) (ht : Try.prog.underlying t = some (.slice e)) (hinfo : (Try.prog.info? e).map (fun i => (i.zero, i.size, i.bytes)) = some (some (.slice none 0 0), 1, 24))
    {base : Nat} {v : Value} {B : List α} (hs : a.eval s = v) (hown : OwnRw R e w base v B)
    {bs cap : Nat} {u : Value} {te : TypeId} {y : α} (hx : a.eval x = .slice (some ⟨bs, 0, none⟩) 1 cap) (hsrc : Blk w bs #[u] te) (hy : R w (fun b => base ≤ b ∧ v.ownBlock ≠ some b) u y) (hbytes : B.length ≤ 1000000000) (hbase : base ≤ w.heap.size)
    (h : ∀ v' w', OwnRw R e w' base v' (B ++ [y]) → w.grownBy w' v.ownBlock → (v'.ownBlock = v.ownBlock ∨ v'.ownBlock = some w.heap.size) → wpList Try.prog ops Q rest (a.put o.dst v') w') : wpList Try.prog ops Q (o :: rest) a w := by
  obtain ⟨ds, hd, hdc⟩ := hown
  refine wpl_append_at hgd s x t ho base e ht hinfo rfl (by decide) hs hd hx (.inr ⟨⟨bs, 0, none⟩, cap, rfl, World.news_of_block hsrc⟩) (by simp) (fun z hz => (show z = u by simpa using hz) ▸ K.one hy) (by unfold maxLen; omega) (by omega) hbase ?_
  intro v' w' h1 h2 _ h4
  exact h v' w' (OwnRw.push K hd hdc h1 h2 h4 hy) h2 h4
end Go.Proofs.Ytjobgkcoblpbcaa
