/- Slices of generators that a call makes: what they read as, and how they grow. Slices of slices that a call makes: of generators, of numbers. -/
import Derived.Test.YtlhdiekibkdiaaaDoorGENC
import Derived.Maps.AppendAt
import Derived.Deep.AppendLies
namespace Go.Proofs.YtlhdiekibkdiaaaDoor
set_option maxRecDepth 100000
open Go.RowKit
set_option linter.unusedSimpArgs false
set_option linter.unusedVariables false
theorem addr_add (bl off j : Nat) : (⟨bl, off, none⟩ : Addr).add j = ⟨bl, off + j, none⟩ := by
  unfold Addr.add; split <;> simp_all
theorem wpl_append_at {P : Program} {w : World} {ops : Array Oper} {rest : List Oper} {o : Oper} {a : Act} {Q : Exit → Act → World → Prop} (hgd : o.guard = none) (s x : Operand) (t : TypeId)
    (ho : o.op = .call { callee := .builtin .append, args := #[s, x], argTypes := #[t, t] })
    (base : Nat) (e : TypeId) {z : Value} {size bytes : Nat} (ht : P.underlying t = some (.slice e)) (hinfo : (P.info? e).map (fun i => (i.zero, i.size, i.bytes)) = some (some z, size, bytes)) (hzs : z.cells.size = size) (hsz : 0 < size)
    {v : Value} {n : Nat} {xs : List Value} (hs : a.eval s = v) (hown : w.ownsRow base e size v n xs)
    {src : Value} {m : Nat} {news : List Value} (hx : a.eval x = src) (hsrc : SrcAt w src m news) (hl : news.length = m * size) (h1 : ∀ u ∈ news, u.oneCell' = true)
    (h63 : n + m ≤ maxLen) (hbytes : (n + m) * bytes ≤ 140737488355328) (hbase : base ≤ w.heap.size)
    (h : ∀ v' w', w'.ownsRow base e size v' (n + m) (xs ++ news) → w.grownBy w' v.ownBlock → (v' = .slice none 0 0 ↔ v = .slice none 0 0 ∧ m = 0) → (v'.ownBlock = v.ownBlock ∨ v'.ownBlock = some w.heap.size) → wpList P ops Q rest (a.put o.dst v') w') : wpList P ops Q (o :: rest) a w := by
  obtain ⟨i, hi, hz0, hz1, hz2⟩ := info_parts hinfo
  rcases hsrc with ⟨rfl, rfl, rfl⟩ | ⟨ad, c, rfl, hnews⟩
  · refine wpList_append_own_none hgd s x t ho base e i size ht hi v n xs hs hown hx ?_
    refine h v w (by simpa using hown) ⟨rfl, rfl, rfl, Nat.le_refl _, fun _ _ _ => rfl⟩ (by simp) (.inl rfl)
  · exact wpList_append_own_at w hgd s x t ho base e i z size bytes ht hi hz0 hz1 hz2 hzs hsz v n xs hs hown ad m c news hx hl hnews h1 h63 hbytes hbase h
theorem info_gen : (Tryd.prog.info? 24).map (fun i => (i.zero, i.size, i.bytes)) = some (some (.agg #[.int .i64 0, .int .i64 0, .int .i64 0, .slice none 0 0]), 4, 48) := by kernel_rfl
/-- So many cells that read as generators of the world w0. -/
structure CellsOf (w0 : World) (cs : List Value) (s : List GT) : Prop where
  len : cs.length = s.length * 4
  at' : ∀ i (h : i < s.length), ∃ k a b t ad cap, cs[i * 4]? = some (.int .i64 k) ∧ cs[i * 4 + 1]? = some (.int .i64 a) ∧ cs[i * 4 + 2]? = some (.int .i64 b) ∧ cs[i * 4 + 3]? = some (.slice ad t cap) ∧
    GenAt w0 (.agg #[.int .i64 k, .int .i64 a, .int .i64 b, .slice ad t cap]) s[i]
theorem CellsOf.nil (w0 : World) : CellsOf w0 [] [] := ⟨rfl, fun i h => absurd h (by simp)⟩
theorem CellsOf.one {w0 : World} {k a b : Int} {t cap : Nat} {ad : Option Addr} {g : GT} (h : GenAt w0 (.agg #[.int .i64 k, .int .i64 a, .int .i64 b, .slice ad t cap]) g) : CellsOf w0 [.int .i64 k, .int .i64 a, .int .i64 b, .slice ad t cap] [g] := by
  refine ⟨rfl, fun i hi => ?_⟩
  have : i = 0 := by simpa using hi
  subst this
  exact ⟨k, a, b, t, ad, cap, rfl, rfl, rfl, rfl, h⟩
theorem CellsOf.append {w0 : World} {cs ds : List Value} {s t : List GT} (h : CellsOf w0 cs s) (k : CellsOf w0 ds t) : CellsOf w0 (cs ++ ds) (s ++ t) := by
  have hl := h.len
  refine ⟨by simp [h.len, k.len, Nat.add_mul], fun i hi => ?_⟩
  by_cases hlt : i < s.length
  · obtain ⟨k', a, b, t', ad, cap, h0, h1, h2, h3, hg⟩ := h.at' i hlt
    refine ⟨k', a, b, t', ad, cap, ?_, ?_, ?_, ?_, ?_⟩
    · rw [List.getElem?_append_left (by omega)]; exact h0
    · rw [List.getElem?_append_left (by omega)]; exact h1
    · rw [List.getElem?_append_left (by omega)]; exact h2
    · rw [List.getElem?_append_left (by omega)]; exact h3
    · rw [List.getElem_append_left hlt]; exact hg
  · have hi2 : i - s.length < t.length := by simp at hi; omega
    obtain ⟨k', a, b, t', ad, cap, h0, h1, h2, h3, hg⟩ := k.at' (i - s.length) hi2
    refine ⟨k', a, b, t', ad, cap, ?_, ?_, ?_, ?_, ?_⟩
    · rw [List.getElem?_append_right (by omega), show i * 4 - cs.length = (i - s.length) * 4 by omega]; exact h0
    · rw [List.getElem?_append_right (by omega), show i * 4 + 1 - cs.length = (i - s.length) * 4 + 1 by omega]; exact h1
    · rw [List.getElem?_append_right (by omega), show i * 4 + 2 - cs.length = (i - s.length) * 4 + 2 by omega]; exact h2
    · rw [List.getElem?_append_right (by omega), show i * 4 + 3 - cs.length = (i - s.length) * 4 + 3 by omega]; exact h3
    · rw [List.getElem_append_right (by omega)]; exact hg
theorem CellsOf.oneCell {w0 : World} {cs : List Value} {s : List GT} (h : CellsOf w0 cs s) : ∀ u ∈ cs, u.oneCell' = true := by
  intro u hu
  obtain ⟨j, hj, rfl⟩ := List.getElem_of_mem hu
  have hl := h.len
  obtain ⟨k', a, b, t', ad, cap, h0, h1, h2, h3, hg⟩ := h.at' (j / 4) (by omega)
  have hc : j = j / 4 * 4 ∨ j = j / 4 * 4 + 1 ∨ j = j / 4 * 4 + 2 ∨ j = j / 4 * 4 + 3 := by omega
  have he : cs[j]? = some cs[j] := List.getElem?_eq_getElem hj
  rcases hc with e | e | e | e
  · rw [← e, he] at h0; rw [Option.some.inj h0]; rfl
  · rw [← e, he] at h1; rw [Option.some.inj h1]; rfl
  · rw [← e, he] at h2; rw [Option.some.inj h2]; rfl
  · rw [← e, he] at h3; rw [Option.some.inj h3]; rfl
/-- A slice of generators: its cells in w, in blocks S; what lies in them in w0. -/
structure GsAt (w0 w : World) (S : Nat → Prop) (ad : Option Addr) (s : List GT) : Prop where
  at' : 0 < s.length → ∃ bl off, ad = some ⟨bl, off, none⟩ ∧ bl < w.heap.size ∧ S bl ∧ ∀ i (h : i < s.length), ∃ k a b t ad' cap, w.cell? ⟨bl, off + i * 4, none⟩ = some (.int .i64 k) ∧
        w.cell? ⟨bl, off + i * 4 + 1, none⟩ = some (.int .i64 a) ∧ w.cell? ⟨bl, off + i * 4 + 2, none⟩ = some (.int .i64 b) ∧ w.cell? ⟨bl, off + i * 4 + 3, none⟩ = some (.slice ad' t cap) ∧
        GenAt w0 (.agg #[.int .i64 k, .int .i64 a, .int .i64 b, .slice ad' t cap]) s[i]
theorem GsAt.keep {w0 w w' : World} {S S' : Nat → Prop} {ad : Option Addr} {s : List GT} (h : GsAt w0 w S ad s) (hz : w.heap.size ≤ w'.heap.size) (hS : ∀ b, S b → b < w.heap.size → S' b ∧ w'.heap[b]? = w.heap[b]?) : GsAt w0 w' S' ad s := by
  refine ⟨fun hp => ?_⟩
  obtain ⟨bl, off, e, hlt, hs, hc⟩ := h.at' hp
  obtain ⟨h1, h2⟩ := hS bl hs hlt
  refine ⟨bl, off, e, Nat.lt_of_lt_of_le hlt hz, h1, fun i hi => ?_⟩
  obtain ⟨k, a, b, t, ad', cap, k0, k1, k2, k3, hg⟩ := hc i hi
  have e : ∀ o, w'.cell? ⟨bl, o, none⟩ = w.cell? ⟨bl, o, none⟩ := fun o => World.cell?_of_block (a := ⟨bl, o, none⟩) h2
  exact ⟨k, a, b, t, ad', cap, (e _).trans k0, (e _).trans k1, (e _).trans k2, (e _).trans k3, hg⟩
theorem GsAt.ext {w0 w w' : World} {S : Nat → Prop} {ad : Option Addr} {s : List GT} (h : GsAt w0 w S ad s) (hb : Below w.heap.size w w') : GsAt w0 w' S ad s := h.keep hb.size (fun b hs hl => ⟨hs, hb.block b hl⟩)
theorem GsAt.mono {w0 w : World} {S S' : Nat → Prop} {ad : Option Addr} {s : List GT} (h : GsAt w0 w S ad s) (hS : ∀ b, S b → b < w.heap.size → S' b) : GsAt w0 w S' ad s := h.keep (Nat.le_refl _) (fun b hs hl => ⟨hS b hs hl, rfl⟩)
/-- What lies in a generator that came in. -/
theorem GensAt.gs {w0 w : World} {ad : Option Addr} {s : List GT} (h : GensAt w0 ad s) (hb : Below w0.heap.size w0 w) : GsAt w0 w (fun b => b < w0.heap.size) ad s := by
  refine ⟨fun hp => ?_⟩
  obtain ⟨bl, off, e, hlt, hc⟩ := h.at' hp
  refine ⟨bl, off, e, Nat.lt_of_lt_of_le hlt hb.size, hlt, fun i hi => ?_⟩
  obtain ⟨k, a, b, t, ad', cap, h0, h1, h2, h3, hg⟩ := hc i hi
  exact ⟨k, a, b, t, ad', cap, (hb.cell (p := ⟨bl, _, none⟩) hlt).trans h0, (hb.cell (p := ⟨bl, _, none⟩) hlt).trans h1, (hb.cell (p := ⟨bl, _, none⟩) hlt).trans h2, (hb.cell (p := ⟨bl, _, none⟩) hlt).trans h3, hg⟩
/-- All but the first, by the address. -/
theorem GsAt.tail {w0 w : World} {S : Nat → Prop} {bl off : Nat} {x : GT} {s : List GT} (h : GsAt w0 w S (some ⟨bl, off, none⟩) (x :: s)) : GsAt w0 w S (some ⟨bl, off + 4, none⟩) s := by
  obtain ⟨bl', off', e, hlt, hs, hc⟩ := h.at' (by simp)
  simp only [Option.some.injEq, Addr.mk.injEq, and_true] at e
  obtain ⟨rfl, rfl⟩ := e
  refine ⟨fun _ => ⟨bl, off + 4, rfl, hlt, hs, fun i hi => ?_⟩⟩
  obtain ⟨k, a, b, t, ad', cap, h0, h1, h2, h3, hg⟩ := hc (i + 1) (by simpa using hi)
  rw [show off + (i + 1) * 4 = off + 4 + i * 4 by omega] at h0 h1 h2 h3
  exact ⟨k, a, b, t, ad', cap, h0, h1, h2, h3, hg⟩
theorem GsAt.nil (w0 w : World) (S : Nat → Prop) (ad : Option Addr) : GsAt w0 w S ad [] := ⟨fun h => absurd h (by simp)⟩
/-- As a source of an append. -/
theorem GsAt.src {w0 w : World} {S : Nat → Prop} {ad : Option Addr} {s : List GT} {cap : Nat} (h : GsAt w0 w S ad s) (h0 : ad = none → cap = 0) : ∃ cs, CellsOf w0 cs s ∧ SrcAt w (.slice ad s.length cap) s.length cs := by
  by_cases hp : 0 < s.length
  · obtain ⟨bl, off, rfl, hlt, hs, hc⟩ := h.at' hp
    have hch : ∀ j, ∃ v : Value, ∀ hj : j < s.length * 4, w.cell? ⟨bl, off + j, none⟩ = some v := by
      intro j
      by_cases hj : j < s.length * 4
      · obtain ⟨k, a, b, t, ad', cap', k0, k1, k2, k3, hg⟩ := hc (j / 4) (by omega)
        have e : j = j / 4 * 4 ∨ j = j / 4 * 4 + 1 ∨ j = j / 4 * 4 + 2 ∨ j = j / 4 * 4 + 3 := by omega
        rcases e with e | e | e | e
        · rw [← e] at k0; exact ⟨_, fun _ => k0⟩
        · rw [Nat.add_assoc, ← e] at k1; exact ⟨_, fun _ => k1⟩
        · rw [Nat.add_assoc, ← e] at k2; exact ⟨_, fun _ => k2⟩
        · rw [Nat.add_assoc, ← e] at k3; exact ⟨_, fun _ => k3⟩
      · exact ⟨.nilIface, fun h => absurd h hj⟩
    let cs : List Value := (List.range (s.length * 4)).map fun j => (hch j).choose
    have hcs : ∀ j, j < s.length * 4 → ∃ v, cs[j]? = some v ∧ w.cell? ⟨bl, off + j, none⟩ = some v := fun j hj => ⟨(hch j).choose, by simp [cs, hj], (hch j).choose_spec hj⟩
    refine ⟨cs, ⟨by simp [cs], fun i hi => ?_⟩, .inr ⟨⟨bl, off, none⟩, cap, rfl, fun j u hu => ?_⟩⟩
    · obtain ⟨k, a, b, t, ad', cap', k0, k1, k2, k3, hg⟩ := hc i hi
      obtain ⟨v0, e0, f0⟩ := hcs (i * 4) (by omega)
      obtain ⟨v1, e1, f1⟩ := hcs (i * 4 + 1) (by omega)
      obtain ⟨v2, e2, f2⟩ := hcs (i * 4 + 2) (by omega)
      obtain ⟨v3, e3, f3⟩ := hcs (i * 4 + 3) (by omega)
      rw [← Nat.add_assoc] at f1 f2 f3
      rw [k0] at f0; rw [k1] at f1; rw [k2] at f2; rw [k3] at f3
      refine ⟨k, a, b, t, ad', cap', by rw [e0, f0], by rw [e1, f1], by rw [e2, f2], by rw [e3, f3], hg⟩
    · have hj : j < s.length * 4 := by
        have := (List.getElem?_eq_some_iff.1 hu).1
        simpa [cs] using this
      obtain ⟨v, e, f⟩ := hcs j hj
      rw [addr_add, f, ← e, hu]
  · have hs : s = [] := List.length_eq_zero_iff.1 (by omega)
    subst hs
    refine ⟨[], CellsOf.nil w0, ?_⟩
    cases ad with
    | none => rw [h0 rfl]; exact .inl ⟨rfl, rfl, rfl⟩
    | some a => exact .inr ⟨a, cap, rfl, fun j u hu => by simp at hu⟩
/-- A slice of generators that the call owns. -/
def OwnGs (w0 w : World) (lo : Nat) (v : Value) (s : List GT) : Prop := ∃ cs, w.ownsRow lo 24 4 v s.length cs ∧ CellsOf w0 cs s
theorem OwnGs.nil (w0 w : World) (lo : Nat) : OwnGs w0 w lo (.slice none 0 0) [] := ⟨[], World.ownsRow_nil _ _ _ _, CellsOf.nil _⟩
theorem OwnGs.keep {w0 w w' : World} {lo : Nat} {v : Value} {s : List GT} (h : OwnGs w0 w lo v s) (hb : ∀ b, v.ownBlock = some b → b < w.heap.size → w'.heap[b]? = w.heap[b]?) : OwnGs w0 w' lo v s := by
  obtain ⟨cs, hown, hc⟩ := h
  refine ⟨cs, ⟨hown.1, ?_⟩, hc⟩
  rcases hown.2 with h2 | ⟨g, cap, cur, hv, hg, hh, r⟩
  · exact .inl h2
  · exact .inr ⟨g, cap, cur, hv, hg, (hb g (by rw [hv]; rfl) (Array.getElem?_eq_some_iff.1 hh).1).trans hh, r⟩
theorem OwnGs.ext {w0 w w' : World} {lo : Nat} {v : Value} {s : List GT} (h : OwnGs w0 w lo v s) (hb : Below w.heap.size w w') : OwnGs w0 w' lo v s := h.keep (fun b _ hl => hb.block b hl)
/-- What it looks like, and reads as. -/
theorem OwnGs.form {w0 w : World} {lo : Nat} {v : Value} {s : List GT} (h : OwnGs w0 w lo v s) : ∃ ad cap, v = .slice ad s.length cap ∧ s.length ≤ cap ∧ cap ≤ maxLen ∧ (ad = none → cap = 0) ∧ GsAt w0 w (fun b => v.ownBlock = some b) ad s ∧ (∀ b, v.ownBlock = some b → lo ≤ b ∧ b < w.heap.size) := by
  obtain ⟨cs, hown, hc⟩ := h
  have hlt := World.ownsRow.lt hown
  rcases hown.2 with ⟨rfl, h0⟩ | ⟨g, cap, cur, rfl, hg, hh, hn, hm, hcs, htake⟩
  · have : s = [] := List.length_eq_zero_iff.1 h0
    subst this
    exact ⟨none, 0, rfl, by simp, by unfold maxLen; omega, fun _ => rfl, GsAt.nil _ _ _ _, hlt⟩
  · refine ⟨_, cap, rfl, hn, hm, (fun e => by cases e), ⟨fun hp => ⟨g, 0, rfl, (Array.getElem?_eq_some_iff.1 hh).1, rfl, fun i hi => ?_⟩⟩, hlt⟩
    have hcell : ∀ o c, cs[o]? = some c → w.cell? ⟨g, o, none⟩ = some c := by
      intro o c ho
      rw [cell_of_row w g o cur 24 (0, 0) hh]
      rw [← htake] at ho
      rw [List.getElem?_take] at ho
      split at ho
      · simpa using ho
      · simp at ho
    obtain ⟨k, a, b, t, ad', cap', k0, k1, k2, k3, hg⟩ := hc.at' i hi
    rw [Nat.zero_add]
    exact ⟨k, a, b, t, ad', cap', hcell _ _ k0, hcell _ _ k1, hcell _ _ k2, hcell _ _ k3, hg⟩
/-- An append of generators. -/
theorem append_gens {w0 w : World} {ops : Array Oper} {rest : List Oper} {o : Oper} {a : Act} {Q : Exit → Act → World → Prop} (hgd : o.guard = none) (s x : Operand)
    (ho : o.op = .call { callee := .builtin .append, args := #[s, x], argTypes := #[22, 22] })
    {base : Nat} {v : Value} {l m : List GT} (hs : a.eval s = v) (hown : OwnGs w0 w base v l)
    {src : Value} {cs : List Value} (hx : a.eval x = src) (hsrc : SrcAt w src m.length cs) (hc : CellsOf w0 cs m) (hbytes : l.length + m.length ≤ 1000000000) (hbase : base ≤ w.heap.size)
    (h : ∀ v' w', OwnGs w0 w' base v' (l ++ m) → w.grownBy w' v.ownBlock → (v' = .slice none 0 0 ↔ v = .slice none 0 0 ∧ m.length = 0) → (v'.ownBlock = v.ownBlock ∨ v'.ownBlock = some w.heap.size) → wpList Tryd.prog ops Q rest (a.put o.dst v') w') : wpList Tryd.prog ops Q (o :: rest) a w := by
  obtain ⟨ds, hd, hdc⟩ := hown
  refine wpl_append_at hgd s x 22 ho base 24 Tryd.underlying22 info_gen rfl (by decide) hs hd hx hsrc hc.len hc.oneCell (by unfold maxLen; omega) (by omega) hbase ?_
  intro v' w' h1 h2 h3 h4
  refine h v' w' ⟨_, by simpa using h1, hdc.append hc⟩ h2 h3 h4
/-- An empty literal. -/
theorem OwnGs.empty (w0 w : World) (lo : Nat) (hb : lo ≤ w.heap.size) : OwnGs w0 (w.alloc (.cells #[] 24)) lo (.slice (some ⟨w.heap.size, 0, none⟩) 0 0) [] := by
  have := World.ownsRow_lit (e := 24) (size := 4) w #[] 0 hb (by decide) (by simp)
  exact ⟨[], by simpa using this, CellsOf.nil _⟩
end Go.Proofs.YtlhdiekibkdiaaaDoor
namespace Go.Proofs.YtlhdiekibkdiaaaDoor
set_option maxRecDepth 100000
open Go.RowKit
set_option linter.unusedSimpArgs false
set_option linter.unusedVariables false
theorem Blk.newAt {w : World} {cs : Array Value} {t : TypeId} {n : Nat} (h : n = w.heap.size) : Blk (w.alloc (.cells cs t)) n cs t := by subst h; exact Blk.new _ _ _
/-- A way to read a cell that leans on some blocks alone. -/
structure Reads {α : Type} (R : World → (Nat → Prop) → Value → α → Prop) : Prop where
  keep : ∀ {w w' : World} {S S' : Nat → Prop} {v : Value} {x : α}, R w S v x → w.heap.size ≤ w'.heap.size → (∀ b, S b → b < w.heap.size → S' b ∧ w'.heap[b]? = w.heap[b]?) → R w' S' v x
  one : ∀ {w : World} {S : Nat → Prop} {v : Value} {x : α}, R w S v x → v.oneCell' = true
/-- A row of the call's own, each of whose cells reads so, outside of the row's own block. -/
def OwnRw {α : Type} (R : World → (Nat → Prop) → Value → α → Prop) (e : TypeId) (w : World) (lo : Nat) (v : Value) (B : List α) : Prop :=
  ∃ cs, w.ownsRow lo e 1 v B.length cs ∧ ∀ i (h : i < B.length), ∃ u, cs[i]? = some u ∧ R w (fun b => lo ≤ b ∧ v.ownBlock ≠ some b) u B[i]
section
variable {α : Type} {R : World → (Nat → Prop) → Value → α → Prop} {e : TypeId} {w w' : World} {lo : Nat} {v v' : Value} {B : List α}
theorem OwnRw.nil (R : World → (Nat → Prop) → Value → α → Prop) (e : TypeId) (w : World) (lo : Nat) : OwnRw R e w lo (.slice none 0 0) [] := ⟨[], World.ownsRow_nil _ _ _ _, fun i h => absurd h (by simp)⟩
theorem OwnRw.lt (h : OwnRw R e w lo v B) : ∀ b, v.ownBlock = some b → lo ≤ b ∧ b < w.heap.size := by
  obtain ⟨cs, hown, _⟩ := h
  exact World.ownsRow.lt hown
theorem OwnRw.keep (K : Reads R) (h : OwnRw R e w lo v B) (hb : Below w.heap.size w w') : OwnRw R e w' lo v B := by
  obtain ⟨cs, hown, hc⟩ := h
  refine ⟨cs, ⟨hown.1, ?_⟩, fun i hi => ?_⟩
  · rcases hown.2 with h2 | ⟨g, cap, cur, hv, hg, hh, r⟩
    · exact .inl h2
    · exact .inr ⟨g, cap, cur, hv, hg, (hb.block g (Array.getElem?_eq_some_iff.1 hh).1).trans hh, r⟩
  · obtain ⟨u, hu, hR⟩ := hc i hi
    exact ⟨u, hu, K.keep hR hb.size (fun b hs hl => ⟨hs, hb.block b hl⟩)⟩
theorem OwnRw.push (K : Reads R) {cs : List Value} {u : Value} {x : α} (h : w.ownsRow lo e 1 v B.length cs) (hc : ∀ i (h : i < B.length), ∃ u, cs[i]? = some u ∧ R w (fun b => lo ≤ b ∧ v.ownBlock ≠ some b) u B[i])
    (hown : w'.ownsRow lo e 1 v' (B.length + 1) (cs ++ [u])) (hg : w.grownBy w' v.ownBlock) (hat : v'.ownBlock = v.ownBlock ∨ v'.ownBlock = some w.heap.size) (hx : R w (fun b => lo ≤ b ∧ v.ownBlock ≠ some b) u x) : OwnRw R e w' lo v' (B ++ [x]) := by
  have hcl : cs.length = B.length := by have := h.1; omega
  have hmv : ∀ {u : Value} {x : α}, R w (fun b => lo ≤ b ∧ v.ownBlock ≠ some b) u x → R w' (fun b => lo ≤ b ∧ v'.ownBlock ≠ some b) u x := fun hR =>
    K.keep hR hg.size (fun b hs hl => ⟨⟨hs.1, by rcases hat with e | e <;> rw [e]; exact hs.2; simp; omega⟩, hg.block b hl (fun e => hs.2 e.symm)⟩)
  refine ⟨cs ++ [u], by simpa using hown, fun i hi => ?_⟩
  by_cases hlt : i < B.length
  · obtain ⟨y, hy, hR⟩ := hc i hlt
    refine ⟨y, by rw [List.getElem?_append_left (by omega)]; exact hy, ?_⟩
    rw [List.getElem_append_left hlt]
    exact hmv hR
  · have : i = B.length := by simp at hi; omega
    subst this
    refine ⟨u, by rw [List.getElem?_append_right (by omega), hcl, Nat.sub_self]; rfl, ?_⟩
    rw [List.getElem_append_right (by omega)]
    simp only [Nat.sub_self, List.getElem_cons_zero]
    exact hmv hx
/-- Its form, and its cells. -/
theorem OwnRw.form (h : OwnRw R e w lo v B) : ∃ ad cap, v = .slice ad B.length cap ∧ B.length ≤ cap ∧ cap ≤ maxLen ∧ (ad = none → cap = 0) ∧ (0 < B.length → ∃ bl, ad = some ⟨bl, 0, none⟩ ∧ v.ownBlock = some bl ∧ bl < w.heap.size ∧ ∀ i (h : i < B.length), ∃ u, w.cell? ⟨bl, i, none⟩ = some u ∧ R w (fun b => lo ≤ b ∧ v.ownBlock ≠ some b) u B[i]) := by
  obtain ⟨cs, hown, hc⟩ := h
  rcases hown.2 with ⟨rfl, h0⟩ | ⟨g, cap, cur, rfl, hg, hh, hn, hm, hcs, htake⟩
  · exact ⟨none, 0, by rw [h0], by omega, by unfold maxLen; omega, fun _ => rfl, fun h => by omega⟩
  · refine ⟨_, cap, rfl, hn, hm, (fun e => by cases e), fun hp => ⟨g, rfl, rfl, (Array.getElem?_eq_some_iff.1 hh).1, fun i hi => ?_⟩⟩
    obtain ⟨u, hu, hR⟩ := hc i hi
    refine ⟨u, ?_, hR⟩
    rw [cell_of_row w g i cur e (0, 0) hh]
    rw [← htake] at hu
    rw [List.getElem?_take] at hu
    split at hu
    · simpa using hu
    · simp at hu
end
/-! ### cells that are slices of generators, of numbers -/
def GsV (w0 w : World) (S : Nat → Prop) (v : Value) (s : List GT) : Prop := ∃ ad cap, v = .slice ad s.length cap ∧ s.length ≤ cap ∧ cap ≤ maxLen ∧ (ad = none → cap = 0) ∧ GsAt w0 w S ad s
theorem GsV.nil (w0 w : World) (S : Nat → Prop) : GsV w0 w S (.slice none 0 0) [] := ⟨none, 0, rfl, by simp, by unfold maxLen; omega, fun _ => rfl, GsAt.nil _ _ _ _⟩
theorem GsV.reads (w0 : World) : Reads (GsV w0) where
  keep := fun h hz hS => by
    obtain ⟨ad, cap, e, h1, h2, h3, h4⟩ := h
    exact ⟨ad, cap, e, h1, h2, h3, h4.keep hz hS⟩
  one := fun h => by
    obtain ⟨ad, cap, rfl, _⟩ := h
    rfl
theorem OwnGs.v {w0 w : World} {lo : Nat} {v : Value} {s : List GT} (h : OwnGs w0 w lo v s) : GsV w0 w (fun b => v.ownBlock = some b) v s := by
  obtain ⟨ad, cap, e, h1, h2, h3, h4, _⟩ := h.form
  exact ⟨ad, cap, e, h1, h2, h3, h4⟩
theorem GsV.src {w0 w : World} {S : Nat → Prop} {v : Value} {s : List GT} (h : GsV w0 w S v s) : ∃ cs, CellsOf w0 cs s ∧ SrcAt w v s.length cs := by
  obtain ⟨ad, cap, rfl, h1, h2, h3, h4⟩ := h
  exact h4.src h3
def IntsS (w : World) (S : Nat → Prop) (v : Value) (l : List Int) : Prop := (∀ n ∈ l, In64 n) ∧ ∃ ad cap, v = .slice ad l.length cap ∧ l.length ≤ cap ∧ cap ≤ maxLen ∧ (ad = none → cap = 0) ∧
  (0 < l.length → ∃ bl off, ad = some ⟨bl, off, none⟩ ∧ bl < w.heap.size ∧ S bl ∧ ∀ i, i < l.length → w.cell? ⟨bl, off + i, none⟩ = some (.int .i64 (l.getD i 0)))
theorem IntsS.reads : Reads IntsS where
  keep := fun {w w' S S' v l} h hz hS => by
    obtain ⟨h0, ad, cap, e, h1, h2, h3, h4⟩ := h
    refine ⟨h0, ad, cap, e, h1, h2, h3, fun hp => ?_⟩
    obtain ⟨bl, off, e, hlt, hs, hc⟩ := h4 hp
    obtain ⟨g1, g2⟩ := hS bl hs hlt
    exact ⟨bl, off, e, Nat.lt_of_lt_of_le hlt hz, g1, fun i hi => (World.cell?_of_block (a := ⟨bl, _, none⟩) g2).trans (hc i hi)⟩
  one := fun h => by
    obtain ⟨_, ad, cap, rfl, _⟩ := h
    rfl
theorem IntsS.at {w : World} {S : Nat → Prop} {v : Value} {l : List Int} (h : IntsS w S v l) : IntsAt w v l := by
  obtain ⟨h0, ad, cap, rfl, h1, h2, h3, h4⟩ := h
  refine ⟨h0, ?_⟩
  cases ad with
  | none =>
    have hc := h3 rfl
    have : l = [] := List.length_eq_zero_iff.1 (by omega)
    subst this
    subst hc
    exact .inl ⟨rfl, rfl⟩
  | some a =>
    refine .inr ⟨a, cap, rfl, h1, h2, fun i hi => ?_⟩
    obtain ⟨bl, off, e, _, _, hc⟩ := h4 (by omega)
    obtain rfl := Option.some.inj e
    rw [addr_add]
    exact hc i hi
theorem OwnInts.s {w : World} {lo : Nat} {v : Value} {l : List Int} (h : OwnInts w lo v l) (hi : ∀ n ∈ l, In64 n) : IntsS w (fun b => v.ownBlock = some b) v l := by
  have ha := h.at hi
  refine ⟨hi, ?_⟩
  rcases h.2 with ⟨rfl, h0⟩ | ⟨g, cap, cur, rfl, hg, hh, hn, hm, hcs, htake⟩
  · exact ⟨none, 0, by rw [h0], by omega, by unfold maxLen; omega, fun _ => rfl, fun h => by omega⟩
  · refine ⟨_, cap, rfl, hn, hm, (fun e => by cases e), fun hp => ⟨g, 0, rfl, (Array.getElem?_eq_some_iff.1 hh).1, rfl, fun i hi => ?_⟩⟩
    rcases ha.2 with ⟨e, _⟩ | ⟨a, cap', e, _, _, hc⟩
    · cases e
    · simp only [Value.slice.injEq, Option.some.injEq] at e
      obtain ⟨rfl, _, _⟩ := e
      have := hc i hi
      rw [addr_add] at this
      exact this
theorem IntsS.mono {w : World} {S S' : Nat → Prop} {v : Value} {l : List Int} (h : IntsS w S v l) (hS : ∀ b, S b → b < w.heap.size → S' b) : IntsS w S' v l := IntsS.reads.keep h (Nat.le_refl _) (fun b hs hl => ⟨hS b hs hl, rfl⟩)
theorem GsV.mono {w0 w : World} {S S' : Nat → Prop} {v : Value} {l : List GT} (h : GsV w0 w S v l) (hS : ∀ b, S b → b < w.heap.size → S' b) : GsV w0 w S' v l := (GsV.reads w0).keep h (Nat.le_refl _) (fun b hs hl => ⟨hS b hs hl, rfl⟩)
/-- A slice of slices, as it reads. -/
def RwAt {α : Type} (R : World → (Nat → Prop) → Value → α → Prop) (w : World) (S : Nat → Prop) (v : Value) (B : List α) : Prop := ∃ ad cap, v = .slice ad B.length cap ∧ B.length ≤ cap ∧ cap ≤ maxLen ∧ (ad = none → cap = 0) ∧
  (0 < B.length → ∃ bl off, ad = some ⟨bl, off, none⟩ ∧ bl < w.heap.size ∧ S bl ∧ ∀ i (h : i < B.length), ∃ u, w.cell? ⟨bl, off + i, none⟩ = some u ∧ R w S u B[i])
theorem RwAt.keep {α : Type} {R : World → (Nat → Prop) → Value → α → Prop} (K : Reads R) {w w' : World} {S S' : Nat → Prop} {v : Value} {B : List α} (h : RwAt R w S v B) (hz : w.heap.size ≤ w'.heap.size) (hS : ∀ b, S b → b < w.heap.size → S' b ∧ w'.heap[b]? = w.heap[b]?) : RwAt R w' S' v B := by
  obtain ⟨ad, cap, e, h1, h2, h3, h4⟩ := h
  refine ⟨ad, cap, e, h1, h2, h3, fun hp => ?_⟩
  obtain ⟨bl, off, e, hlt, hs, hc⟩ := h4 hp
  obtain ⟨g1, g2⟩ := hS bl hs hlt
  refine ⟨bl, off, e, Nat.lt_of_lt_of_le hlt hz, g1, fun i hi => ?_⟩
  obtain ⟨u, hu, hR⟩ := hc i hi
  exact ⟨u, (World.cell?_of_block (a := ⟨bl, _, none⟩) g2).trans hu, K.keep hR hz hS⟩
theorem OwnRw.at {α : Type} {R : World → (Nat → Prop) → Value → α → Prop} (K : Reads R) {e : TypeId} {w : World} {lo : Nat} {v : Value} {B : List α} (h : OwnRw R e w lo v B) : RwAt R w (fun b => lo ≤ b) v B := by
  have hlt := h.lt
  obtain ⟨ad, cap, e, h1, h2, h3, h4⟩ := h.form
  refine ⟨ad, cap, e, h1, h2, h3, fun hp => ?_⟩
  obtain ⟨bl, e, ho, hl, hc⟩ := h4 hp
  refine ⟨bl, 0, e, hl, (hlt bl ho).1, fun i hi => ?_⟩
  obtain ⟨u, hu, hR⟩ := hc i hi
  rw [Nat.zero_add]
  exact ⟨u, hu, K.keep hR (Nat.le_refl _) (fun b hs _ => ⟨hs.1, rfl⟩)⟩
theorem info_gens : (Tryd.prog.info? 22).map (fun i => (i.zero, i.size, i.bytes)) = some (some (.slice none 0 0), 1, 24) := by kernel_rfl
theorem info_ints : (Tryd.prog.info? 25).map (fun i => (i.zero, i.size, i.bytes)) = some (some (.slice none 0 0), 1, 24) := by kernel_rfl
/-- One more row. -/
theorem append_rw {α : Type} {R : World → (Nat → Prop) → Value → α → Prop} (K : Reads R) {w : World} {ops : Array Oper} {rest : List Oper} {o : Oper} {a : Act} {Q : Exit → Act → World → Prop} (hgd : o.guard = none) (s x : Operand) (t e : TypeId)
    (ho : o.op = .call { callee := .builtin .append, args := #[s, x], argTypes := #[t, t] }) (ht : Tryd.prog.underlying t = some (.slice e)) (hinfo : (Tryd.prog.info? e).map (fun i => (i.zero, i.size, i.bytes)) = some (some (.slice none 0 0), 1, 24))
    {base : Nat} {v : Value} {B : List α} (hs : a.eval s = v) (hown : OwnRw R e w base v B)
    {bs cap : Nat} {u : Value} {te : TypeId} {y : α} (hx : a.eval x = .slice (some ⟨bs, 0, none⟩) 1 cap) (hsrc : Blk w bs #[u] te) (hy : R w (fun b => base ≤ b ∧ v.ownBlock ≠ some b) u y) (hbytes : B.length ≤ 1000000000) (hbase : base ≤ w.heap.size)
    (h : ∀ v' w', OwnRw R e w' base v' (B ++ [y]) → w.grownBy w' v.ownBlock → (v'.ownBlock = v.ownBlock ∨ v'.ownBlock = some w.heap.size) → wpList Tryd.prog ops Q rest (a.put o.dst v') w') : wpList Tryd.prog ops Q (o :: rest) a w := by
  obtain ⟨ds, hd, hdc⟩ := hown
  refine wpl_append_at hgd s x t ho base e ht hinfo rfl (by decide) hs hd hx (.inr ⟨⟨bs, 0, none⟩, cap, rfl, World.news_of_block hsrc⟩) (by simp) (fun z hz => (show z = u by simpa using hz) ▸ K.one hy) (by unfold maxLen; omega) (by omega) hbase ?_
  intro v' w' h1 h2 _ h4
  exact h v' w' (OwnRw.push K hd hdc h1 h2 h4 hy) h2 h4
end Go.Proofs.YtlhdiekibkdiaaaDoor
