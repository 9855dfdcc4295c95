/- How the arguments of a statement are opened. How the arguments of a statement of the second form are opened: with what the bound says of their sizes. -/
import Derived.Test.YtlhdiekibkdiaaaDoorProg
import Derived.Test.YtlhdiekibkdiaaaDoorBase
import Derived.Test.YtlhdiekibkdiaaaDoorRows
import Derived.Test.YtlhdiekibkdiaaaDoorPVT
import Derived.Test.YtlhdiekibkdiaaaDoorPWt
import Derived.Test.YtlhdiekibkdiaaaDoorRS1
namespace Go.Proofs.YtlhdiekibkdiaaaDoor
set_option maxRecDepth 100000
open Go.ChangeShapes Go.WideShapes Go.ChangeAt Go.RowKit
open Go.ChangeMaps (open_string shut_string)
set_option linter.unusedSimpArgs false
set_option linter.unusedVariables false
section
variable {H : Type} {enc : TypeId × Value → H} {W : World} {base b0 : Nat} {spare : Nat → Bool} {held : Bool} {v : Value} {d : DataW H} {p : List MemPlace}
theorem opens_int (hv : Value.okWide Tryd.prog W .any base 3 v) (h : DataW.Trod enc Tryd.prog W b0 spare held 3 v d p) : ∃ n, IntAt v n := by
  obtain ⟨a, rfl, rfl, rfl, w⟩ := open_int Tryd.underlying3 hv h
  exact ⟨a, rfl, bounds_i64 w⟩
theorem opens_ints (hv : Value.okWide Tryd.prog W .any base 25 v) (h : DataW.Trod enc Tryd.prog W b0 (fun _ => true) held 25 v d p) : ∃ l, IntsAt W v l := by
  obtain ⟨a0, len, cap, rfl⟩ := okWide_slice Tryd.underlying25 hv
  obtain ⟨fuel, hf⟩ := h
  rcases open_ints Tryd.underlying25 Tryd.underlying3 (by kernel_rfl) hf with ⟨hcs, _⟩ | ⟨x, l, c, zs, hcs, _, hl, hm, hz, _, hcell, hwz⟩
  · simp [Value.cells] at hcs
    obtain ⟨rfl, rfl, rfl⟩ := hcs
    exact ⟨[], by simp, .inl ⟨rfl, rfl⟩⟩
  · simp [Value.cells] at hcs
    obtain ⟨rfl, rfl, rfl⟩ := hcs
    have hz' : zs.length = cap := by simpa using hz
    have hlen : (zs.take len).length = len := by simp; omega
    refine ⟨zs.take len, fun n hn => bounds_i64 (hwz n (List.mem_of_mem_take hn)), .inr ⟨x, cap, by rw [hlen], by omega, hm, fun i hi => ?_⟩⟩
    rw [hcell i (by omega), Joins.getD_take_lt _ _ _ _ (by omega)]
end
end Go.Proofs.YtlhdiekibkdiaaaDoor
namespace Go.Proofs.YtlhdiekibkdiaaaDoor
set_option maxRecDepth 100000
open Go.ChangeShapes Go.WideShapes Go.ChangeAt Go.RowKit
open Go.ChangeMaps (open_string shut_string)
set_option linter.unusedSimpArgs false
set_option linter.unusedVariables false
theorem bulk_one_le {H : Type} (d : DataW H) : 1 ≤ Rows.uptoBulk d := by
  cases d with
  | lit l => cases l <;> simp [Rows.uptoBulk]
  | nil => simp [Rows.uptoBulk]
  | ptr d => simp [Rows.uptoBulk]
  | slice elems spare => simp [Rows.uptoBulk]
  | agg parts => simp [Rows.uptoBulk]
  | iface t d => simp [Rows.uptoBulk]
  | map entries => simp [Rows.uptoBulk]
  | held h => simp [Rows.uptoBulk]
theorem bulk_length_le {H : Type} (l : List (DataW H)) : l.length ≤ Rows.uptoBulkAll l := by
  induction l with
  | nil => simp [Rows.uptoBulkAll]
  | cons x r ih => have := bulk_one_le x; simp only [Rows.uptoBulkAll, List.length_cons]; omega
theorem bulk_slice_le {H : Type} (elems spare : List (DataW H)) : elems.length + spare.length + 1 ≤ Rows.uptoBulk (.slice elems spare) := by
  have h1 := bulk_length_le elems
  have h2 := bulk_length_le spare
  simp only [Rows.uptoBulk]
  omega
section
variable {H : Type} {enc : TypeId × Value → H} {W : World} {base b0 : Nat} {spare : Nat → Bool} {held : Bool} {v : Value} {d : DataW H} {p : List MemPlace}
theorem opens_ints_upto (hv : Value.okWide Tryd.prog W .any base 25 v) (h : DataW.Trod enc Tryd.prog W b0 (fun _ => true) held 25 v d p) : ∃ l, IntsAt W v l ∧ l.length ≤ Rows.uptoBulk d := by
  obtain ⟨a0, len, cap, rfl⟩ := okWide_slice Tryd.underlying25 hv
  obtain ⟨fuel, hf⟩ := h
  rcases open_ints Tryd.underlying25 Tryd.underlying3 (by kernel_rfl) hf with ⟨hcs, _⟩ | ⟨x, l, c, zs, hcs, _, hl, hm, hz, hd, hcell, hwz⟩
  · simp [Value.cells] at hcs
    obtain ⟨rfl, rfl, rfl⟩ := hcs
    exact ⟨[], ⟨by simp, .inl ⟨rfl, rfl⟩⟩, by simp⟩
  · simp [Value.cells] at hcs
    obtain ⟨rfl, rfl, rfl⟩ := hcs
    have hz' : zs.length = cap := by simpa using hz
    have hlen : (zs.take len).length = len := by simp; omega
    refine ⟨zs.take len, ⟨fun n hn => bounds_i64 (hwz n (List.mem_of_mem_take hn)), .inr ⟨x, cap, by rw [hlen], by omega, hm, fun i hi => ?_⟩⟩, ?_⟩
    · rw [hcell i (by omega), Joins.getD_take_lt _ _ _ _ (by omega)]
    · simp only [Prod.mk.injEq] at hd
      rw [hd.1]
      have := bulk_slice_le (H := H) (lits .i64 (zs.take len)) (lits .i64 (zs.drop len))
      simp only [lits, List.length_map] at this ⊢
      omega
end
end Go.Proofs.YtlhdiekibkdiaaaDoor
namespace Go.Proofs.YtlhdiekibkdiaaaDoor
set_option maxRecDepth 100000
open Go.ChangeShapes Go.WideShapes Go.ChangeAt Go.RowKit
set_option linter.unusedSimpArgs false
set_option linter.unusedVariables false
theorem list_of {α : Type} {n : Nat} {P : Nat → α → Prop} (h : ∀ i, i < n → ∃ x, P i x) : ∃ l : List α, l.length = n ∧ ∀ i (hi : i < l.length), P i l[i] := by
  induction n with
  | zero => exact ⟨[], rfl, fun i hi => absurd hi (by simp)⟩
  | succ n ih =>
    obtain ⟨l, hl, hp⟩ := ih (fun i hi => h i (by omega))
    obtain ⟨x, hx⟩ := h n (by omega)
    refine ⟨l ++ [x], by simp [hl], fun i hi => ?_⟩
    by_cases hlt : i < l.length
    · rw [List.getElem_append_left hlt]; exact hp i hlt
    · have : i = l.length := by simp at hi; omega
      subst this
      rw [List.getElem_append_right (by omega)]
      simp only [Nat.sub_self, List.getElem_cons_zero]
      rw [hl]; exact hx
end Go.Proofs.YtlhdiekibkdiaaaDoor
namespace Go.Proofs.YtlhdiekibkdiaaaDoor
set_option maxRecDepth 100000
open Go.ChangeShapes Go.WideShapes Go.ChangeAt Go.RowKit
set_option linter.unusedSimpArgs false
set_option linter.unusedVariables false
theorem wtL_bulk {H : Type} (s : List VT) : ∀ (elems : List (DataW H × List MemPlace)), s.length = elems.length → (∀ i (h : i < s.length) (h2 : i < elems.length), VT.wt s[i] ≤ Rows.uptoBulk elems[i].1) → VT.wtL s ≤ Rows.uptoBulkAll (elems.map (·.1)) := by
  induction s with
  | nil => intro elems _ _; simp [VT.wtL]
  | cons x s ih =>
    intro elems hl h
    cases elems with
    | nil => simp at hl
    | cons e elems =>
      have h0 := h 0 (by simp) (by simp)
      have h1 := ih elems (by simpa using hl) (fun i hi hi2 => h (i + 1) (by simpa using hi) (by simpa using hi2))
      simp only [List.getElem_cons_zero] at h0
      simp only [VT.wtL, List.map_cons, Rows.uptoBulkAll]
      omega
section
variable {H : Type} {enc : TypeId × Value → H} {W : World} {base b0 : Nat} {spare : Nat → Bool} {held : Bool}
theorem value_of_trod_upto : ∀ (fuel : Nat) (cs : List Value) (x : DataW H × List MemPlace), DataW.trod enc Tryd.prog W b0 spare held fuel 34 cs = some x → ∃ g, ValAt W (.agg cs.toArray) g ∧ VT.wt g ≤ Rows.uptoBulk x.1 := by
  intro fuel
  induction fuel using Nat.strongRecOn with
  | _ fuel ih =>
    intro cs x h
    obtain ⟨xs, n, rfl, ex, hl, hlen, hf⟩ := DataW.trod_struct Tryd.underlying34 h
    have hC : Tryd.prog.cellsOf 34 = 3 := by kernel_rfl
    have hI : Tryd.prog.cellsOf 3 = 1 := by kernel_rfl
    have hB : Tryd.prog.cellsOf 4 = 1 := by kernel_rfl
    have hS : Tryd.prog.cellsOf 32 = 1 := by kernel_rfl
    rw [hC] at hl
    match cs, hl, xs, hlen with
    | [c0, c1, c2], _, [y0, y1, y2], _ =>
      have f0 := hf 0 _ rfl
      have f1 := hf 1 _ rfl
      have f2 := hf 2 _ rfl
      simp [hI, hS, hB] at f0 f1 f2
      obtain ⟨l, e0, _⟩ := DataW.trod_bool Tryd.underlying4 f0
      obtain ⟨k, e1, _, wk⟩ := DataW.trod_int Tryd.underlying3 f1
      simp at e0 e1
      subst e0 e1
      rcases DataW.trod_slice Tryd.underlying32 f2 with ⟨e3, _⟩ | ⟨ad, len, cap, elems, rest, n2, rfl, e3, ey, _, hlc, hcm, hel, hcell, _, _⟩
      · simp at e3
        subst e3
        refine ⟨.mk l k [], ValIn.leaf l k (bounds_i64 wk), ?_⟩
        rw [ex]; simp only [VT.wt, VT.wtL, Rows.uptoBulk]; omega
      · simp at e3
        subst e3
        have hE : ∀ i, i < len → ∃ p : Value × VT, (∃ c0 c1 c2, p.1 = .agg #[c0, c1, c2] ∧ W.cell? ((ad.add (i * 3)).add 0) = some c0 ∧ W.cell? ((ad.add (i * 3)).add 1) = some c1 ∧ W.cell? ((ad.add (i * 3)).add 2) = some c2) ∧ ValAt W p.1 p.2 ∧ ∃ he : i < elems.length, VT.wt p.2 ≤ Rows.uptoBulk (elems[i]'he).1 := by
          intro i hi
          have h1 := hcell i hi
          rw [hC] at h1
          have h2 : elems[i]? = some (elems[i]'(by omega)) := List.getElem?_eq_getElem (by omega)
          rw [h2] at h1
          obtain ⟨cs', h3, h4⟩ := Option.bind_eq_some_iff.1 h1
          obtain ⟨_, hlen', hc'⟩ := World.cells?_some h3
          match cs', hlen', h4, hc' with
          | [d0, d1, d2], _, h4, hc' =>
            obtain ⟨g, hg, hgb⟩ := ih n2 (by omega) _ _ h4
            exact ⟨(.agg #[d0, d1, d2], g), ⟨d0, d1, d2, rfl, by simpa using hc' 0 (by omega), by simpa using hc' 1 (by omega), by simpa using hc' 2 (by omega)⟩, hg, by omega, hgb⟩
        obtain ⟨s, hll, hp⟩ := list_of hE
        have hsl : (s.map (·.2)).length = len := by simp [hll]
        refine ⟨.mk l k (s.map (·.2)), ?_, ?_⟩
        rotate_left
        · have hb := wtL_bulk (s.map (·.2)) elems (by simp; omega) (fun i hi hi2 => by
            have hi' : i < s.length := by simpa using hi
            obtain ⟨_, h3⟩ := (hp i hi').2.2
            simpa using h3)
          rw [ex]
          simp only [ey, VT.wt, Rows.uptoBulk, List.map_cons, List.map_nil, Rows.uptoBulkAll]
          omega
        rw [← hsl]
        refine ValIn.mk (bounds_i64 wk) (by rw [hsl]; exact hlc) hcm (fun i => if h : i < s.length then s[i].1 else .nilIface) (fun hp0 => ?_) (fun i hi => ?_)
        · have hp1 : 0 < s.length := by simpa using hp0
          obtain ⟨c0, c1, c2, _, h0, _⟩ := (hp 0 hp1).1
          obtain ⟨bl, off, spot⟩ := ad
          have hspot : spot = none := by simpa [Addr.add] using World.cell?_spot h0
          subst hspot
          refine ⟨bl, off, rfl, World.block_lt_of_cell? W _ h0, trivial, fun i hi => ?_⟩
          have hi' : i < s.length := by simpa using hi
          obtain ⟨c0, c1, c2, hv, h0, h1, h2⟩ := (hp i hi').1
          simp only [Go.WideShapes.add_plain, Nat.add_zero] at h0 h1 h2
          exact ⟨c0, c1, c2, by simp [hi', hv], h0, h1, h2⟩
        · have hi' : i < s.length := by simpa using hi
          have := (hp i hi').2.1
          simpa [hi'] using this
theorem opens_value_upto {v : Value} {d : DataW H} {p : List MemPlace} (hv : Value.okWide Tryd.prog W .any base 34 v) (h : DataW.Trod enc Tryd.prog W b0 spare held 34 v d p) : ∃ g, ValAt W v g ∧ VT.wt g ≤ Rows.uptoBulk d := by
  obtain ⟨cs, rfl, hsz⟩ := okWide_struct Tryd.underlying34 hv
  obtain ⟨fuel, hf⟩ := h
  have := value_of_trod_upto fuel _ _ hf
  simpa [Value.cells] using this
end
end Go.Proofs.YtlhdiekibkdiaaaDoor
