/- How the arguments of a statement are opened. How the arguments of a statement of the second form are opened: with what the bound says of their sizes. -/
import Derived.Test.YtocngjpjheockaaProg
import Derived.Test.YtocngjpjheockaaBase
import Derived.Test.YtocngjpjheockaaRows
import Derived.Test.YtocngjpjheockaaGENC
namespace Go.Proofs.Ytocngjpjheockaa
set_option maxRecDepth 100000
open Go.ChangeShapes Go.WideShapes Go.ChangeAt Go.RowKit
open Go.ChangeMaps (open_string shut_string)
set_option linter.unusedSimpArgs false
set_option linter.unusedVariables false
section
variable {H : Type} {enc : TypeId × Value → H} {W : World} {base b0 : Nat} {spare : Nat → Bool} {held : Bool} {v : Value} {d : DataW H} {p : List MemPlace}
theorem opens_int (hv : Value.okWide Try.prog W .any base 3 v) (h : DataW.Trod enc Try.prog W b0 spare held 3 v d p) : ∃ n, IntAt v n := by
  obtain ⟨a, rfl, rfl, rfl, w⟩ := open_int Try.underlying3 hv h
  exact ⟨a, rfl, bounds_i64 w⟩
theorem opens_u64 (hv : Value.okWide Try.prog W .any base 22 v) (h : DataW.Trod enc Try.prog W b0 spare held 22 v d p) : ∃ n, U64At v n := by
  obtain ⟨a, rfl, rfl, rfl, w⟩ := open_int Try.underlying22 hv h
  obtain ⟨h0, h1⟩ := bounds_u64 w
  obtain ⟨n, rfl⟩ := Int.eq_ofNat_of_zero_le h0
  exact ⟨n, rfl, by omega⟩
theorem opens_seed (hv : Value.okWide Try.prog W .any base 24 v) (h : DataW.Trod enc Try.prog W b0 spare held 24 v d p) : ∃ x, SeedAt v x := by
  obtain ⟨c0, c1, y0, y1, m, rfl, rfl, rfl, hy0, hy1⟩ := Joins.open_agg2 Try.underlying24 (by kernel_rfl) (by kernel_rfl) hv h
  obtain ⟨a, e0, _, wa⟩ := DataW.trod_int Try.underlying22 hy0
  obtain ⟨b, e1, _, wb⟩ := DataW.trod_int Try.underlying22 hy1
  simp at e0 e1
  subst e0 e1
  obtain ⟨ha0, ha1⟩ := bounds_u64 wa
  obtain ⟨hb0, hb1⟩ := bounds_u64 wb
  obtain ⟨n, rfl⟩ := Int.eq_ofNat_of_zero_le ha0
  obtain ⟨m, rfl⟩ := Int.eq_ofNat_of_zero_le hb0
  exact ⟨(n, m), rfl, by simp; omega, by simp; omega⟩
theorem opens_ints (hv : Value.okWide Try.prog W .any base 38 v) (h : DataW.Trod enc Try.prog W b0 (fun _ => true) held 38 v d p) : ∃ l, IntsAt W v l := by
  obtain ⟨a0, len, cap, rfl⟩ := okWide_slice Try.underlying38 hv
  obtain ⟨fuel, hf⟩ := h
  rcases open_ints Try.underlying38 Try.underlying3 (by kernel_rfl) hf with ⟨hcs, _⟩ | ⟨x, l, c, zs, hcs, _, hl, hm, hz, _, hcell, hwz⟩
  · simp [Value.cells] at hcs
    obtain ⟨rfl, rfl, rfl⟩ := hcs
    exact ⟨[], by simp, .inl ⟨rfl, rfl⟩⟩
  · simp [Value.cells] at hcs
    obtain ⟨rfl, rfl, rfl⟩ := hcs
    have hz' : zs.length = cap := by simpa using hz
    have hlen : (zs.take len).length = len := by simp; omega
    refine ⟨zs.take len, fun n hn => bounds_i64 (hwz n (List.mem_of_mem_take hn)), .inr ⟨x, cap, by rw [hlen], by omega, hm, fun i hi => ?_⟩⟩
    rw [hcell i (by omega), Joins.getD_take_lt _ _ _ _ (by omega)]
end
end Go.Proofs.Ytocngjpjheockaa
namespace Go.Proofs.Ytocngjpjheockaa
set_option maxRecDepth 100000
open Go.ChangeShapes Go.WideShapes Go.ChangeAt Go.RowKit
open Go.ChangeMaps (open_string shut_string)
set_option linter.unusedSimpArgs false
set_option linter.unusedVariables false
theorem bulk_one_le {H : Type} (d : DataW H) : 1 ≤ Rows.uptoBulk d := by
  cases d with
  | lit l => cases l <;> simp [Rows.uptoBulk]
  | nil => simp [Rows.uptoBulk]
  | ptr d => simp [Rows.uptoBulk]
  | slice elems spare => simp [Rows.uptoBulk]
  | agg parts => simp [Rows.uptoBulk]
  | iface t d => simp [Rows.uptoBulk]
  | map entries => simp [Rows.uptoBulk]
  | held h => simp [Rows.uptoBulk]
theorem bulk_length_le {H : Type} (l : List (DataW H)) : l.length ≤ Rows.uptoBulkAll l := by
  induction l with
  | nil => simp [Rows.uptoBulkAll]
  | cons x r ih => have := bulk_one_le x; simp only [Rows.uptoBulkAll, List.length_cons]; omega
theorem bulk_slice_le {H : Type} (elems spare : List (DataW H)) : elems.length + spare.length + 1 ≤ Rows.uptoBulk (.slice elems spare) := by
  have h1 := bulk_length_le elems
  have h2 := bulk_length_le spare
  simp only [Rows.uptoBulk]
  omega
section
variable {H : Type} {enc : TypeId × Value → H} {W : World} {base b0 : Nat} {spare : Nat → Bool} {held : Bool} {v : Value} {d : DataW H} {p : List MemPlace}
theorem opens_ints_upto (hv : Value.okWide Try.prog W .any base 38 v) (h : DataW.Trod enc Try.prog W b0 (fun _ => true) held 38 v d p) : ∃ l, IntsAt W v l ∧ l.length ≤ Rows.uptoBulk d := by
  obtain ⟨a0, len, cap, rfl⟩ := okWide_slice Try.underlying38 hv
  obtain ⟨fuel, hf⟩ := h
  rcases open_ints Try.underlying38 Try.underlying3 (by kernel_rfl) hf with ⟨hcs, _⟩ | ⟨x, l, c, zs, hcs, _, hl, hm, hz, hd, hcell, hwz⟩
  · simp [Value.cells] at hcs
    obtain ⟨rfl, rfl, rfl⟩ := hcs
    exact ⟨[], ⟨by simp, .inl ⟨rfl, rfl⟩⟩, by simp⟩
  · simp [Value.cells] at hcs
    obtain ⟨rfl, rfl, rfl⟩ := hcs
    have hz' : zs.length = cap := by simpa using hz
    have hlen : (zs.take len).length = len := by simp; omega
    refine ⟨zs.take len, ⟨fun n hn => bounds_i64 (hwz n (List.mem_of_mem_take hn)), .inr ⟨x, cap, by rw [hlen], by omega, hm, fun i hi => ?_⟩⟩, ?_⟩
    · rw [hcell i (by omega), Joins.getD_take_lt _ _ _ _ (by omega)]
    · simp only [Prod.mk.injEq] at hd
      rw [hd.1]
      have := bulk_slice_le (H := H) (lits .i64 (zs.take len)) (lits .i64 (zs.drop len))
      simp only [lits, List.length_map] at this ⊢
      omega
end
end Go.Proofs.Ytocngjpjheockaa
namespace Go.Proofs.Ytocngjpjheockaa
set_option maxRecDepth 100000
open Go.ChangeShapes Go.WideShapes Go.ChangeAt Go.RowKit
set_option linter.unusedSimpArgs false
set_option linter.unusedVariables false
theorem list_of {α : Type} {n : Nat} {P : Nat → α → Prop} (h : ∀ i, i < n → ∃ x, P i x) : ∃ l : List α, l.length = n ∧ ∀ i (hi : i < l.length), P i l[i] := by
  induction n with
  | zero => exact ⟨[], rfl, fun i hi => absurd hi (by simp)⟩
  | succ n ih =>
    obtain ⟨l, hl, hp⟩ := ih (fun i hi => h i (by omega))
    obtain ⟨x, hx⟩ := h n (by omega)
    refine ⟨l ++ [x], by simp [hl], fun i hi => ?_⟩
    by_cases hlt : i < l.length
    · rw [List.getElem_append_left hlt]; exact hp i hlt
    · have : i = l.length := by simp at hi; omega
      subst this
      rw [List.getElem_append_right (by omega)]
      simp only [Nat.sub_self, List.getElem_cons_zero]
      rw [hl]; exact hx
section
variable {H : Type} {enc : TypeId × Value → H} {W : World} {base b0 : Nat} {spare : Nat → Bool} {held : Bool}
theorem gen_of_trod : ∀ (fuel : Nat) (cs : List Value) (x : DataW H × List MemPlace), DataW.trod enc Try.prog W b0 spare held fuel 43 cs = some x → ∃ g, GenAt W (.agg cs.toArray) g := by
  intro fuel
  induction fuel using Nat.strongRecOn with
  | _ fuel ih =>
    intro cs x h
    obtain ⟨xs, n, rfl, _, hl, hlen, hf⟩ := DataW.trod_struct Try.underlying43 h
    have hC : Try.prog.cellsOf 43 = 4 := by kernel_rfl
    have hI : Try.prog.cellsOf 3 = 1 := by kernel_rfl
    have hS : Try.prog.cellsOf 41 = 1 := by kernel_rfl
    rw [hC] at hl
    match cs, hl, xs, hlen with
    | [c0, c1, c2, c3], _, [y0, y1, y2, y3], _ =>
      have f0 := hf 0 _ rfl
      have f1 := hf 1 _ rfl
      have f2 := hf 2 _ rfl
      have f3 := hf 3 _ rfl
      simp [hI, hS] at f0 f1 f2 f3
      obtain ⟨k, e0, _, wk⟩ := DataW.trod_int Try.underlying3 f0
      obtain ⟨a, e1, _, wa⟩ := DataW.trod_int Try.underlying3 f1
      obtain ⟨b, e2, _, wb⟩ := DataW.trod_int Try.underlying3 f2
      simp at e0 e1 e2
      subst e0 e1 e2
      rcases DataW.trod_slice Try.underlying41 f3 with ⟨e3, _⟩ | ⟨ad, len, cap, elems, rest, n2, rfl, e3, _, _, hlc, hcm, hel, hcell, _, _⟩
      · simp at e3
        subst e3
        exact ⟨.mk k a b [], GenAt.mk (s := []) (bounds_i64 wk) (bounds_i64 wa) (bounds_i64 wb) (by simp) (by simp) (fun _ => rfl) (fun _ => .nilIface) (fun h => absurd h (by simp)) (fun i hi => absurd hi (by simp))⟩
      · simp at e3
        subst e3
        have hE : ∀ i, i < len → ∃ p : Value × GT, (∃ c0 c1 c2 c3, p.1 = .agg #[c0, c1, c2, c3] ∧ W.cell? ((ad.add (i * 4)).add 0) = some c0 ∧ W.cell? ((ad.add (i * 4)).add 1) = some c1 ∧ W.cell? ((ad.add (i * 4)).add 2) = some c2 ∧ W.cell? ((ad.add (i * 4)).add 3) = some c3) ∧ GenAt W p.1 p.2 := by
          intro i hi
          have h1 := hcell i hi
          rw [hC] at h1
          have h2 : elems[i]? = some (elems[i]'(by omega)) := List.getElem?_eq_getElem (by omega)
          rw [h2] at h1
          obtain ⟨cs', h3, h4⟩ := Option.bind_eq_some_iff.1 h1
          obtain ⟨_, hlen', hc'⟩ := World.cells?_some h3
          match cs', hlen', h4, hc' with
          | [d0, d1, d2, d3], _, h4, hc' =>
            obtain ⟨g, hg⟩ := ih n2 (by omega) _ _ h4
            exact ⟨(.agg #[d0, d1, d2, d3], g), ⟨d0, d1, d2, d3, rfl, by simpa using hc' 0 (by omega), by simpa using hc' 1 (by omega), by simpa using hc' 2 (by omega), by simpa using hc' 3 (by omega)⟩, hg⟩
        obtain ⟨l, hll, hp⟩ := list_of hE
        have hsl : (l.map (·.2)).length = len := by simp [hll]
        refine ⟨.mk k a b (l.map (·.2)), ?_⟩
        rw [← hsl]
        refine GenAt.mk (bounds_i64 wk) (bounds_i64 wa) (bounds_i64 wb) (by rw [hsl]; exact hlc) hcm (fun e => by cases e) (fun i => if h : i < l.length then l[i].1 else .nilIface) (fun hp0 => ?_) (fun i hi => ?_)
        · have hp1 : 0 < l.length := by simpa using hp0
          obtain ⟨c0, c1, c2, c3, _, h0, _⟩ := (hp 0 hp1).1
          obtain ⟨bl, off, spot⟩ := ad
          have hspot : spot = none := by simpa [Addr.add] using World.cell?_spot h0
          subst hspot
          refine ⟨bl, off, rfl, World.block_lt_of_cell? W _ h0, fun i hi => ?_⟩
          have hi' : i < l.length := by simpa using hi
          obtain ⟨c0, c1, c2, c3, hv, h0, h1, h2, h3⟩ := (hp i hi').1
          simp only [Go.WideShapes.add_plain, Nat.add_zero] at h0 h1 h2 h3
          exact ⟨c0, c1, c2, c3, by simp [hi', hv], h0, h1, h2, h3⟩
        · have hi' : i < l.length := by simpa using hi
          have := (hp i hi').2
          simpa [hi'] using this
theorem opens_gen {v : Value} {d : DataW H} {p : List MemPlace} (hv : Value.okWide Try.prog W .any base 43 v) (h : DataW.Trod enc Try.prog W b0 spare held 43 v d p) : ∃ g, GenAt W v g := by
  obtain ⟨cs, rfl, hsz⟩ := okWide_struct Try.underlying43 hv
  obtain ⟨fuel, hf⟩ := h
  have := gen_of_trod fuel _ _ hf
  simpa [Value.cells] using this
theorem opens_gen_upto {v : Value} {d : DataW H} {p : List MemPlace} (hv : Value.okWide Try.prog W .any base 43 v) (h : DataW.Trod enc Try.prog W b0 spare held 43 v d p) : ∃ g, GenAt W v g ∧ True := by
  obtain ⟨g, hg⟩ := opens_gen hv h
  exact ⟨g, hg, trivial⟩
end
end Go.Proofs.Ytocngjpjheockaa
