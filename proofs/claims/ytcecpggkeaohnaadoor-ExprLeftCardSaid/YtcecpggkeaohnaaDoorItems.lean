import Derived.Test.YtcecpggkeaohnaaDoorMadeC
namespace Go.Proofs.YtcecpggkeaohnaaDoor
set_option maxRecDepth 100000
open Go.RowKit
set_option linter.unusedSimpArgs false
set_option linter.unusedVariables false
/-- The items that are made: a slice of the call's own, its elements, where they lie. -/
structure Items (w : World) (lo : Nat) (S : Nat → Prop) (iv : Value) (cs : List Value) (ts : List VT) : Prop where
  own : w.ownsRow lo 27 3 iv ts.length cs
  free : ∀ b, S b → iv.ownBlock ≠ some b
  at' : ∀ i (h : i < ts.length), ∃ c0 c1 c2, cs[i * 3]? = some c0 ∧ cs[i * 3 + 1]? = some c1 ∧ cs[i * 3 + 2]? = some c2 ∧ ValIn S w (.agg #[c0, c1, c2]) ts[i]
theorem info_value : ∃ i, (Tryd.prog.info? 27) = some i ∧ i.zero = some (.agg #[.bool false, .int .i64 0, .slice none 0 0]) ∧ i.size = 3 ∧ i.bytes = 40 := by
  refine ⟨_, rfl, ?_⟩
  refine ⟨by kernel_rfl, by kernel_rfl, by kernel_rfl⟩
theorem Items.nil (w : World) (lo : Nat) : Items w lo (fun _ => False) (.slice none 0 0) [] [] := ⟨World.ownsRow_nil _ _ _ _, fun _ h => h.elim, fun i h => absurd h (by simp)⟩
theorem Items.keep {w w' : World} {lo : Nat} {S : Nat → Prop} {iv : Value} {cs : List Value} {ts : List VT} (h : Items w lo S iv cs ts) (hz : w.heap.size ≤ w'.heap.size)
    (hS : ∀ b, S b → b < w.heap.size → w'.heap[b]? = w.heap[b]?) (hI : ∀ b, iv.ownBlock = some b → b < w.heap.size → w'.heap[b]? = w.heap[b]?) : Items w' lo S iv cs ts := by
  refine ⟨⟨h.own.1, ?_⟩, h.free, fun i hi => ?_⟩
  · rcases h.own.2 with h2 | ⟨g, cap, cur, hv, hg, hh, r⟩
    · exact .inl h2
    · have hlt : g < w.heap.size := (Array.getElem?_eq_some_iff.1 hh).1
      exact .inr ⟨g, cap, cur, hv, hg, (hI g (by rw [hv]; rfl) hlt).trans hh, r⟩
  · obtain ⟨c0, c1, c2, h0, h1, h2, hv⟩ := h.at' i hi
    exact ⟨c0, c1, c2, h0, h1, h2, hv.keep hz (fun b hb hl => ⟨hb, hS b hb hl⟩)⟩
theorem Items.lt {w : World} {lo : Nat} {S : Nat → Prop} {iv : Value} {cs : List Value} {ts : List VT} (h : Items w lo S iv cs ts) : ∀ b, iv.ownBlock = some b → lo ≤ b ∧ b < w.heap.size := fun b hb => World.ownsRow.lt h.own b hb
/-- What they make up as a list. -/
theorem Items.val {w : World} {lo : Nat} {S : Nat → Prop} {iv : Value} {cs : List Value} {ts : List VT} (h : Items w lo S iv cs ts) : ValIn (fun b => S b ∨ iv.ownBlock = some b) w (.agg #[.bool true, .int .i64 0, iv]) (.mk true 0 ts) := by
  rcases h.own.2 with ⟨rfl, h0⟩ | ⟨g, cap, cur, rfl, hg, hh, hn, hm, hcs, htake⟩
  · have : ts = [] := List.length_eq_zero_iff.1 h0
    subst this
    exact ValIn.leaf _ _ ⟨by omega, by omega⟩
  · have hch : ∀ i : Nat, ∃ v : Value, ∀ hi : i < ts.length, (∃ c0 c1 c2, v = .agg #[c0, c1, c2] ∧ cs[i * 3]? = some c0 ∧ cs[i * 3 + 1]? = some c1 ∧ cs[i * 3 + 2]? = some c2) ∧ ValIn S w v ts[i] := by
      intro i
      by_cases hi : i < ts.length
      · obtain ⟨c0, c1, c2, h0, h1, h2, hv⟩ := h.at' i hi
        exact ⟨_, fun _ => ⟨⟨_, _, _, rfl, h0, h1, h2⟩, hv⟩⟩
      · exact ⟨.nilIface, fun h => absurd h hi⟩
    have hcell : ∀ o c, cs[o]? = some c → w.cell? ⟨g, o, none⟩ = some c := by
      intro o c ho
      rw [cell_of_row w g o cur 27 (0, 0) hh]
      rw [← htake] at ho
      have hlt : o < (cur.toList.take (ts.length * 3)).length := (List.getElem?_eq_some_iff.1 ho).1
      rw [List.getElem?_take] at ho
      split at ho
      · simpa using ho
      · simp at ho
    refine .mk ⟨by omega, by omega⟩ hn (by unfold maxLen at hm; exact hm) (fun i => (hch i).choose) (fun _ => ⟨g, 0, rfl, (Array.getElem?_eq_some_iff.1 hh).1, .inr rfl, fun i hi => ?_⟩) (fun i hi => ((hch i).choose_spec hi).2.keep (Nat.le_refl _) (fun b hb _ => ⟨.inl hb, rfl⟩))
    obtain ⟨⟨c0, c1, c2, e, h0, h1, h2⟩, _⟩ := (hch i).choose_spec hi
    rw [Nat.zero_add]
    exact ⟨c0, c1, c2, e, hcell _ _ h0, hcell _ _ h1, hcell _ _ h2⟩
/-- One more. -/
theorem Items.push {w w' : World} {lo : Nat} {S : Nat → Prop} {iv iv' : Value} {cs : List Value} {ts : List VT} {c0 c1 c2 : Value} {t : VT} (h : Items w lo S iv cs ts)
    (hown : w'.ownsRow lo 27 3 iv' (ts.length + 1) (cs ++ [c0, c1, c2])) (hg : w.grownBy w' iv.ownBlock) (hat : iv'.ownBlock = iv.ownBlock ∨ iv'.ownBlock = some w.heap.size) (hSlt : ∀ b, S b → b < w.heap.size)
    {S2 : Nat → Prop} (hS2 : ∀ b, S2 b → b < w.heap.size ∧ iv.ownBlock ≠ some b) (hv : ValIn S2 w (.agg #[c0, c1, c2]) t) : Items w' lo (fun b => S b ∨ S2 b) iv' (cs ++ [c0, c1, c2]) (ts ++ [t]) := by
  have hcl : cs.length = ts.length * 3 := h.own.1
  refine ⟨by simpa using hown, fun b hb => ?_, fun i hi => ?_⟩
  · rcases hat with e | e
    · rw [e]
      rcases hb with hb | hb
      · exact h.free b hb
      · exact (hS2 b hb).2
    · rw [e]
      intro e2
      have e2 := Option.some.inj e2
      rcases hb with hb | hb
      · have := hSlt b hb; omega
      · have := (hS2 b hb).1; omega
  · by_cases hlt : i < ts.length
    · obtain ⟨d0, d1, d2, e0, e1, e2, hv⟩ := h.at' i hlt
      refine ⟨d0, d1, d2, ?_, ?_, ?_, ?_⟩
      · rw [List.getElem?_append_left (by omega)]; exact e0
      · rw [List.getElem?_append_left (by omega)]; exact e1
      · rw [List.getElem?_append_left (by omega)]; exact e2
      · rw [List.getElem_append_left hlt]
        exact hv.keep hg.size (fun b hb hl => ⟨.inl hb, hg.block b hl (fun e => h.free b hb e.symm)⟩)
    · have hi2 : i = ts.length := by simp at hi; omega
      subst hi2
      refine ⟨c0, c1, c2, ?_, ?_, ?_, ?_⟩
      · rw [List.getElem?_append_right (by omega), show ts.length * 3 - cs.length = 0 by omega]; rfl
      · rw [List.getElem?_append_right (by omega), show ts.length * 3 + 1 - cs.length = 1 by omega]; rfl
      · rw [List.getElem?_append_right (by omega), show ts.length * 3 + 2 - cs.length = 2 by omega]; rfl
      · rw [List.getElem_append_right (by omega)]
        simp only [Nat.sub_self, List.getElem_cons_zero]
        exact hv.keep hg.size (fun b hb hl => ⟨.inr hb, hg.block b hl (fun e => (hS2 b hb).2 e.symm)⟩)
end Go.Proofs.YtcecpggkeaohnaaDoor
