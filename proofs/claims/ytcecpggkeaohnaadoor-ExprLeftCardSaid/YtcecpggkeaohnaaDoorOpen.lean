/- How the arguments of a statement are opened. -/
import Derived.Test.YtcecpggkeaohnaaDoorProg
import Derived.Test.YtcecpggkeaohnaaDoorBase
namespace Go.Proofs.YtcecpggkeaohnaaDoor
set_option maxRecDepth 100000
open Go.ChangeShapes Go.WideShapes Go.ChangeAt Go.RowKit
open Go.ChangeMaps (open_string shut_string)
set_option linter.unusedSimpArgs false
set_option linter.unusedVariables false
section
variable {H : Type} {enc : TypeId × Value → H} {W : World} {base b0 : Nat} {spare : Nat → Bool} {held : Bool} {v : Value} {d : DataW H} {p : List MemPlace}
theorem opens_int (hv : Value.okWide Tryd.prog W .any base 3 v) (h : DataW.Trod enc Tryd.prog W b0 spare held 3 v d p) : ∃ n, IntAt v n := by
  obtain ⟨a, rfl, rfl, rfl, w⟩ := open_int Tryd.underlying3 hv h
  exact ⟨a, rfl, bounds_i64 w⟩
theorem opens_u64 (hv : Value.okWide Tryd.prog W .any base 85 v) (h : DataW.Trod enc Tryd.prog W b0 spare held 85 v d p) : ∃ n, U64At v n := by
  obtain ⟨a, rfl, rfl, rfl, w⟩ := open_int Tryd.underlying85 hv h
  obtain ⟨h0, h1⟩ := bounds_u64 w
  obtain ⟨n, rfl⟩ := Int.eq_ofNat_of_zero_le h0
  exact ⟨n, rfl, by omega⟩
theorem opens_seed (hv : Value.okWide Tryd.prog W .any base 87 v) (h : DataW.Trod enc Tryd.prog W b0 spare held 87 v d p) : ∃ x, SeedAt v x := by
  obtain ⟨c0, c1, y0, y1, m, rfl, rfl, rfl, hy0, hy1⟩ := Joins.open_agg2 Tryd.underlying87 (by kernel_rfl) (by kernel_rfl) hv h
  obtain ⟨a, e0, _, wa⟩ := DataW.trod_int Tryd.underlying85 hy0
  obtain ⟨b, e1, _, wb⟩ := DataW.trod_int Tryd.underlying85 hy1
  simp at e0 e1
  subst e0 e1
  obtain ⟨ha0, ha1⟩ := bounds_u64 wa
  obtain ⟨hb0, hb1⟩ := bounds_u64 wb
  obtain ⟨n, rfl⟩ := Int.eq_ofNat_of_zero_le ha0
  obtain ⟨m, rfl⟩ := Int.eq_ofNat_of_zero_le hb0
  exact ⟨(n, m), rfl, by simp; omega, by simp; omega⟩
theorem opens_ints (hv : Value.okWide Tryd.prog W .any base 43 v) (h : DataW.Trod enc Tryd.prog W b0 (fun _ => true) held 43 v d p) : ∃ l, IntsAt W v l := by
  obtain ⟨a0, len, cap, rfl⟩ := okWide_slice Tryd.underlying43 hv
  obtain ⟨fuel, hf⟩ := h
  rcases open_ints Tryd.underlying43 Tryd.underlying3 (by kernel_rfl) hf with ⟨hcs, _⟩ | ⟨x, l, c, zs, hcs, _, hl, hm, hz, _, hcell, hwz⟩
  · simp [Value.cells] at hcs
    obtain ⟨rfl, rfl, rfl⟩ := hcs
    exact ⟨[], by simp, .inl ⟨rfl, rfl⟩⟩
  · simp [Value.cells] at hcs
    obtain ⟨rfl, rfl, rfl⟩ := hcs
    have hz' : zs.length = cap := by simpa using hz
    have hlen : (zs.take len).length = len := by simp; omega
    refine ⟨zs.take len, fun n hn => bounds_i64 (hwz n (List.mem_of_mem_take hn)), .inr ⟨x, cap, by rw [hlen], by omega, hm, fun i hi => ?_⟩⟩
    rw [hcell i (by omega), Joins.getD_take_lt _ _ _ _ (by omega)]
end
end Go.Proofs.YtcecpggkeaohnaaDoor
