/- Rows behind rows: an append of many. How long a tape may be. The walk through the document's answer on all tapes. -/
import Derived.Test.YtbfnlaplhgknaaaDoorTP2
namespace Go.Proofs.YtbfnlaplhgknaaaDoor
set_option maxRecDepth 100000
open Go.RowKit
set_option linter.unusedSimpArgs false
set_option linter.unusedVariables false
theorem RwAt.src {α : Type} {R : World → (Nat → Prop) → Value → α → Prop} {w : World} {S : Nat → Prop} {v : Value} {C : List α} (h : RwAt R w S v C) : ∃ news, SrcAt w v C.length news ∧ news.length = C.length ∧ ∀ i (h : i < C.length), ∃ u, news[i]? = some u ∧ R w S u C[i] := by
  obtain ⟨ad, cap, rfl, h1, h2, h3, h4⟩ := h
  by_cases hp : 0 < C.length
  · obtain ⟨bl, off, rfl, hlt, hs, hc⟩ := h4 hp
    have hget : ∀ i, i < C.length → ((List.range C.length).map (fun i => (w.cell? ⟨bl, off + i, none⟩).getD undef))[i]? = some ((w.cell? ⟨bl, off + i, none⟩).getD undef) := fun i hi => by simp [hi]
    refine ⟨(List.range C.length).map (fun i => (w.cell? ⟨bl, off + i, none⟩).getD undef), .inr ⟨_, _, rfl, fun j u hu => ?_⟩, by simp, fun i hi => ?_⟩
    · have hj : j < C.length := by have := (List.getElem?_eq_some_iff.1 hu).1; simpa using this
      rw [hget j hj] at hu
      obtain ⟨u', e, _⟩ := hc j hj
      rw [e] at hu
      rw [addr_add, e]; simpa using hu
    · obtain ⟨u, e, hR⟩ := hc i hi
      exact ⟨u, by rw [hget i hi, e]; rfl, hR⟩
  · cases C with
    | cons x C => exact absurd (by simp) hp
    | nil =>
      refine ⟨[], ?_, rfl, fun i hi => absurd hi (by simp)⟩
      cases ad with
      | none => have := h3 rfl; subst this; exact .inl ⟨rfl, rfl, rfl⟩
      | some a => exact .inr ⟨a, cap, rfl, fun j u hu => by simp at hu⟩
theorem OwnRw.pushs {α : Type} {R : World → (Nat → Prop) → Value → α → Prop} {e : TypeId} {w w' : World} {lo : Nat} {v v' : Value} {B C : List α} (K : Reads R) {cs news : List Value} (h : w.ownsRow lo e 1 v B.length cs) (hc : ∀ i (h : i < B.length), ∃ u, cs[i]? = some u ∧ R w (fun b => lo ≤ b ∧ v.ownBlock ≠ some b) u B[i])
    (hown : w'.ownsRow lo e 1 v' (B.length + C.length) (cs ++ news)) (hg : w.grownBy w' v.ownBlock) (hat : v'.ownBlock = v.ownBlock ∨ v'.ownBlock = some w.heap.size) (hx : ∀ i (h : i < C.length), ∃ u, news[i]? = some u ∧ R w (fun b => lo ≤ b ∧ v.ownBlock ≠ some b) u C[i]) : OwnRw R e w' lo v' (B ++ C) := by
  have hcl : cs.length = B.length := by have := h.1; omega
  have hmv : ∀ {u : Value} {x : α}, R w (fun b => lo ≤ b ∧ v.ownBlock ≠ some b) u x → R w' (fun b => lo ≤ b ∧ v'.ownBlock ≠ some b) u x := fun hR =>
    K.keep hR hg.size (fun b hs hl => ⟨⟨hs.1, by rcases hat with e | e <;> rw [e]; exact hs.2; simp; omega⟩, hg.block b hl (fun e => hs.2 e.symm)⟩)
  refine ⟨cs ++ news, by simpa using hown, fun i hi => ?_⟩
  by_cases hlt : i < B.length
  · obtain ⟨y, hy, hR⟩ := hc i hlt
    refine ⟨y, by rw [List.getElem?_append_left (by omega)]; exact hy, ?_⟩
    rw [List.getElem_append_left hlt]
    exact hmv hR
  · have hi2 : i - B.length < C.length := by simp at hi; omega
    obtain ⟨y, hy, hR⟩ := hx (i - B.length) hi2
    refine ⟨y, by rw [List.getElem?_append_right (by omega), hcl]; exact hy, ?_⟩
    rw [List.getElem_append_right (by omega)]
    exact hmv hR
theorem append_rws {α : Type} {R : World → (Nat → Prop) → Value → α → Prop} (K : Reads R) {w : World} {ops : Array Oper} {rest : List Oper} {o : Oper} {a : Act} {Q : Exit → Act → World → Prop} (hgd : o.guard = none) (s x : Operand) (t e : TypeId)
    (ho : o.op = .call { callee := .builtin .append, args := #[s, x], argTypes := #[t, t] }) (ht : Tryd.prog.underlying t = some (.slice e)) (hinfo : (Tryd.prog.info? e).map (fun i => (i.zero, i.size, i.bytes)) = some (some (.slice none 0 0), 1, 24))
    {base : Nat} {v : Value} {B : List α} (hs : a.eval s = v) (hown : OwnRw R e w base v B)
    {src : Value} {C : List α} (hx : a.eval x = src) (hsrc : RwAt R w (fun b => base ≤ b ∧ v.ownBlock ≠ some b) src C) (hbytes : B.length + C.length ≤ 1000000000) (hbase : base ≤ w.heap.size)
    (h : ∀ v' w', OwnRw R e w' base v' (B ++ C) → w.grownBy w' v.ownBlock → (v'.ownBlock = v.ownBlock ∨ v'.ownBlock = some w.heap.size) → wpList Tryd.prog ops Q rest (a.put o.dst v') w') : wpList Tryd.prog ops Q (o :: rest) a w := by
  obtain ⟨ds, hd, hdc⟩ := hown
  obtain ⟨news, h1, h2, h3⟩ := hsrc.src
  refine wpl_append_at hgd s x t ho base e ht hinfo rfl (by decide) hs hd hx h1 (by omega) (fun z hz => ?_) (by unfold maxLen; omega) (by omega) hbase ?_
  · obtain ⟨i, hi, e⟩ := List.getElem_of_mem hz
    obtain ⟨u, e2, hR⟩ := h3 i (by omega)
    rw [List.getElem?_eq_getElem hi, e] at e2
    rw [Option.some.inj e2]; exact K.one hR
  intro v' w' g1 g2 _ g4
  exact h v' w' (OwnRw.pushs K hd hdc g1 g2 g4 h3) g2 g4
namespace GT
theorem costL_append' (l m : List GT) : costL (l ++ m) = costL l + costL m := by
  induction l with
  | nil => simp [costL]
  | cons x l ih => simp only [List.cons_append, costL, ih]; omega
theorem NthR.len {l : List GT} {i : Int} {t : List Int} (h : NthR l i t) : OkL l → t.length ≤ costL l := by
  induction h with
  | nil => intro _; simp
  | just h ih => intro hl; have := ih hl.cons.2; simp only [costL]; omega
  | both h ih =>
    intro hl
    have h1 := ih ((ok_both hl.cons.1).1.append hl.cons.2)
    rw [costL_append'] at h1
    simp only [costL, cost, show ¬ ((3:Int) = 2) by decide, if_false, if_true]
    exact h1
  | @choose g rest j i t hc hj h ih =>
    intro hl
    have h1 := ih (((ok_brs hl.cons.1 hc).2 _ (List.getElem_mem hj)).append hl.cons.2)
    have h2 := cost_brs (check_ok hl.cons.1.1) hc hj
    rw [costL_append'] at h1
    simp only [costL, List.length_cons]
    omega
theorem Enum.len {l : List GT} {T : List (List Int)} (h : Enum l T) (hl : OkL l) : ∀ x ∈ T, x.length ≤ costL l := by
  intro x hx
  obtain ⟨i, hi, rfl⟩ := List.getElem_of_mem hx
  exact (h.2 i hi).len hl
end GT
end Go.Proofs.YtbfnlaplhgknaaaDoor
