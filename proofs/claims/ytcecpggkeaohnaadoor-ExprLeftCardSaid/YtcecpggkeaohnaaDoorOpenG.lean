import Derived.Test.YtcecpggkeaohnaaDoorOpenUp
import Derived.Test.YtcecpggkeaohnaaDoorTree
namespace Go.Proofs.YtcecpggkeaohnaaDoor
set_option maxRecDepth 100000
open Go.ChangeShapes Go.WideShapes Go.ChangeAt Go.RowKit
set_option linter.unusedSimpArgs false
set_option linter.unusedVariables false
theorem list_of {α : Type} {n : Nat} {P : Nat → α → Prop} (h : ∀ i, i < n → ∃ x, P i x) : ∃ l : List α, l.length = n ∧ ∀ i (hi : i < l.length), P i l[i] := by
  induction n with
  | zero => exact ⟨[], rfl, fun i hi => absurd hi (by simp)⟩
  | succ n ih =>
    obtain ⟨l, hl, hp⟩ := ih (fun i hi => h i (by omega))
    obtain ⟨x, hx⟩ := h n (by omega)
    refine ⟨l ++ [x], by simp [hl], fun i hi => ?_⟩
    by_cases hlt : i < l.length
    · rw [List.getElem_append_left hlt]; exact hp i hlt
    · have : i = l.length := by simp at hi; omega
      subst this
      rw [List.getElem_append_right (by omega)]
      simp only [Nat.sub_self, List.getElem_cons_zero]
      rw [hl]; exact hx
section
variable {H : Type} {enc : TypeId × Value → H} {W : World} {base b0 : Nat} {spare : Nat → Bool} {held : Bool}
theorem gen_of_trod : ∀ (fuel : Nat) (cs : List Value) (x : DataW H × List MemPlace), DataW.trod enc Tryd.prog W b0 spare held fuel 41 cs = some x → ∃ g, GenAt W (.agg cs.toArray) g := by
  intro fuel
  induction fuel using Nat.strongRecOn with
  | _ fuel ih =>
    intro cs x h
    obtain ⟨xs, n, rfl, _, hl, hlen, hf⟩ := DataW.trod_struct Tryd.underlying41 h
    have hC : Tryd.prog.cellsOf 41 = 4 := by kernel_rfl
    have hI : Tryd.prog.cellsOf 3 = 1 := by kernel_rfl
    have hS : Tryd.prog.cellsOf 39 = 1 := by kernel_rfl
    rw [hC] at hl
    match cs, hl, xs, hlen with
    | [c0, c1, c2, c3], _, [y0, y1, y2, y3], _ =>
      have f0 := hf 0 _ rfl
      have f1 := hf 1 _ rfl
      have f2 := hf 2 _ rfl
      have f3 := hf 3 _ rfl
      simp [hI, hS] at f0 f1 f2 f3
      obtain ⟨k, e0, _, wk⟩ := DataW.trod_int Tryd.underlying3 f0
      obtain ⟨a, e1, _, wa⟩ := DataW.trod_int Tryd.underlying3 f1
      obtain ⟨b, e2, _, wb⟩ := DataW.trod_int Tryd.underlying3 f2
      simp at e0 e1 e2
      subst e0 e1 e2
      rcases DataW.trod_slice Tryd.underlying39 f3 with ⟨e3, _⟩ | ⟨ad, len, cap, elems, rest, n2, rfl, e3, _, _, hlc, hcm, hel, hcell, _, _⟩
      · simp at e3
        subst e3
        exact ⟨.mk k a b [], GenAt.mk (s := []) (bounds_i64 wk) (bounds_i64 wa) (bounds_i64 wb) (by simp) (by simp) (fun _ => rfl) (fun _ => .nilIface) (fun h => absurd h (by simp)) (fun i hi => absurd hi (by simp))⟩
      · simp at e3
        subst e3
        have hE : ∀ i, i < len → ∃ p : Value × GT, (∃ c0 c1 c2 c3, p.1 = .agg #[c0, c1, c2, c3] ∧ W.cell? ((ad.add (i * 4)).add 0) = some c0 ∧ W.cell? ((ad.add (i * 4)).add 1) = some c1 ∧ W.cell? ((ad.add (i * 4)).add 2) = some c2 ∧ W.cell? ((ad.add (i * 4)).add 3) = some c3) ∧ GenAt W p.1 p.2 := by
          intro i hi
          have h1 := hcell i hi
          rw [hC] at h1
          have h2 : elems[i]? = some (elems[i]'(by omega)) := List.getElem?_eq_getElem (by omega)
          rw [h2] at h1
          obtain ⟨cs', h3, h4⟩ := Option.bind_eq_some_iff.1 h1
          obtain ⟨_, hlen', hc'⟩ := World.cells?_some h3
          match cs', hlen', h4, hc' with
          | [d0, d1, d2, d3], _, h4, hc' =>
            obtain ⟨g, hg⟩ := ih n2 (by omega) _ _ h4
            exact ⟨(.agg #[d0, d1, d2, d3], g), ⟨d0, d1, d2, d3, rfl, by simpa using hc' 0 (by omega), by simpa using hc' 1 (by omega), by simpa using hc' 2 (by omega), by simpa using hc' 3 (by omega)⟩, hg⟩
        obtain ⟨l, hll, hp⟩ := list_of hE
        have hsl : (l.map (·.2)).length = len := by simp [hll]
        refine ⟨.mk k a b (l.map (·.2)), ?_⟩
        rw [← hsl]
        refine GenAt.mk (bounds_i64 wk) (bounds_i64 wa) (bounds_i64 wb) (by rw [hsl]; exact hlc) hcm (fun e => by cases e) (fun i => if h : i < l.length then l[i].1 else .nilIface) (fun hp0 => ?_) (fun i hi => ?_)
        · have hp1 : 0 < l.length := by simpa using hp0
          obtain ⟨c0, c1, c2, c3, _, h0, _⟩ := (hp 0 hp1).1
          obtain ⟨bl, off, spot⟩ := ad
          have hspot : spot = none := by simpa [Addr.add] using World.cell?_spot h0
          subst hspot
          refine ⟨bl, off, rfl, World.block_lt_of_cell? W _ h0, fun i hi => ?_⟩
          have hi' : i < l.length := by simpa using hi
          obtain ⟨c0, c1, c2, c3, hv, h0, h1, h2, h3⟩ := (hp i hi').1
          simp only [Go.WideShapes.add_plain, Nat.add_zero] at h0 h1 h2 h3
          exact ⟨c0, c1, c2, c3, by simp [hi', hv], h0, h1, h2, h3⟩
        · have hi' : i < l.length := by simpa using hi
          have := (hp i hi').2
          simpa [hi'] using this
theorem opens_gen {v : Value} {d : DataW H} {p : List MemPlace} (hv : Value.okWide Tryd.prog W .any base 41 v) (h : DataW.Trod enc Tryd.prog W b0 spare held 41 v d p) : ∃ g, GenAt W v g := by
  obtain ⟨cs, rfl, hsz⟩ := okWide_struct Tryd.underlying41 hv
  obtain ⟨fuel, hf⟩ := h
  have := gen_of_trod fuel _ _ hf
  simpa [Value.cells] using this
theorem opens_gen_upto {v : Value} {d : DataW H} {p : List MemPlace} (hv : Value.okWide Tryd.prog W .any base 41 v) (h : DataW.Trod enc Tryd.prog W b0 spare held 41 v d p) : ∃ g, GenAt W v g ∧ True := by
  obtain ⟨g, hg⟩ := opens_gen hv h
  exact ⟨g, hg, trivial⟩
end
end Go.Proofs.YtcecpggkeaohnaaDoor
