/- How the arguments of a statement are opened: expressions. -/
import Derived.Test.YtibmnifenfingaaGreatDoorOpenV
import Derived.Test.YtibmnifenfingaaGreatDoorEXA
namespace Go.Proofs.YtibmnifenfingaaGreatDoor
set_option maxRecDepth 100000
open Go.ChangeShapes Go.WideShapes Go.ChangeAt Go.RowKit
set_option linter.unusedSimpArgs false
set_option linter.unusedVariables false
section
variable {H : Type} {enc : TypeId × Value → H} {W : World} {base b0 : Nat} {spare : Nat → Bool} {held : Bool}
theorem expr_of_trod : ∀ (fuel : Nat) (cs : List Value) (x : DataW H × List MemPlace), DataW.trod enc Tryz.prog W b0 spare held fuel 27 cs = some x → ∃ g, ExprAt W (.agg cs.toArray) g := by
  intro fuel
  induction fuel using Nat.strongRecOn with
  | _ fuel ih =>
    intro cs x h
    obtain ⟨xs, n, rfl, _, hl, hlen, hf⟩ := DataW.trod_struct Tryz.underlying27 h
    have hC : Tryz.prog.cellsOf 27 = 3 := by kernel_rfl
    have hI : Tryz.prog.cellsOf 3 = 1 := by kernel_rfl
    have hS : Tryz.prog.cellsOf 25 = 1 := by kernel_rfl
    rw [hC] at hl
    match cs, hl, xs, hlen with
    | [c0, c1, c2], _, [y0, y1, y2], _ =>
      have f0 := hf 0 _ rfl
      have f1 := hf 1 _ rfl
      have f2 := hf 2 _ rfl
      simp [hI, hS] at f0 f1 f2
      obtain ⟨l, e0, _, wl⟩ := DataW.trod_int Tryz.underlying3 f0
      obtain ⟨k, e1, _, wk⟩ := DataW.trod_int Tryz.underlying3 f1
      simp at e0 e1
      subst e0 e1
      rcases DataW.trod_slice Tryz.underlying25 f2 with ⟨e3, _⟩ | ⟨ad, len, cap, elems, rest, n2, rfl, e3, _, _, hlc, hcm, hel, hcell, _, _⟩
      · simp at e3
        subst e3
        exact ⟨.mk l k [], ExprAt.leaf l k (bounds_i64 wl) (bounds_i64 wk)⟩
      · simp at e3
        subst e3
        have hE : ∀ i, i < len → ∃ p : Value × ET, (∃ c0 c1 c2, p.1 = .agg #[c0, c1, c2] ∧ W.cell? ((ad.add (i * 3)).add 0) = some c0 ∧ W.cell? ((ad.add (i * 3)).add 1) = some c1 ∧ W.cell? ((ad.add (i * 3)).add 2) = some c2) ∧ ExprAt W p.1 p.2 := by
          intro i hi
          have h1 := hcell i hi
          rw [hC] at h1
          have h2 : elems[i]? = some (elems[i]'(by omega)) := List.getElem?_eq_getElem (by omega)
          rw [h2] at h1
          obtain ⟨cs', h3, h4⟩ := Option.bind_eq_some_iff.1 h1
          obtain ⟨_, hlen', hc'⟩ := World.cells?_some h3
          match cs', hlen', h4, hc' with
          | [d0, d1, d2], _, h4, hc' =>
            obtain ⟨g, hg⟩ := ih n2 (by omega) _ _ h4
            exact ⟨(.agg #[d0, d1, d2], g), ⟨d0, d1, d2, rfl, by simpa using hc' 0 (by omega), by simpa using hc' 1 (by omega), by simpa using hc' 2 (by omega)⟩, hg⟩
        obtain ⟨s, hll, hp⟩ := list_of hE
        have hsl : (s.map (·.2)).length = len := by simp [hll]
        refine ⟨.mk l k (s.map (·.2)), ?_⟩
        rw [← hsl]
        refine ExprAt.mk (bounds_i64 wl) (bounds_i64 wk) (by rw [hsl]; exact hlc) hcm (fun i => if h : i < s.length then s[i].1 else .nilIface) (fun hp0 => ?_) (fun i hi => ?_)
        · have hp1 : 0 < s.length := by simpa using hp0
          obtain ⟨c0, c1, c2, _, h0, _⟩ := (hp 0 hp1).1
          obtain ⟨bl, off, spot⟩ := ad
          have hspot : spot = none := by simpa [Addr.add] using World.cell?_spot h0
          subst hspot
          refine ⟨bl, off, rfl, World.block_lt_of_cell? W _ h0, fun i hi => ?_⟩
          have hi' : i < s.length := by simpa using hi
          obtain ⟨c0, c1, c2, hv, h0, h1, h2⟩ := (hp i hi').1
          simp only [Go.WideShapes.add_plain, Nat.add_zero] at h0 h1 h2
          exact ⟨c0, c1, c2, by simp [hi', hv], h0, h1, h2⟩
        · have hi' : i < s.length := by simpa using hi
          have := (hp i hi').2
          simpa [hi'] using this
theorem opens_expr {v : Value} {d : DataW H} {p : List MemPlace} (hv : Value.okWide Tryz.prog W .any base 27 v) (h : DataW.Trod enc Tryz.prog W b0 spare held 27 v d p) : ∃ g, ExprAt W v g := by
  obtain ⟨cs, rfl, hsz⟩ := okWide_struct Tryz.underlying27 hv
  obtain ⟨fuel, hf⟩ := h
  have := expr_of_trod fuel _ _ hf
  simpa [Value.cells] using this
end
end Go.Proofs.YtibmnifenfingaaGreatDoor
