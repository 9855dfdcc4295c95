/- The walks through what an expression tells: the two closures that are called with each number. -/
import Derived.Test.YtcecpggkeaohnaaDoorEX2
namespace Go.Proofs.YtcecpggkeaohnaaDoor
set_option maxRecDepth 100000
open Go.RowKit
set_option linter.unusedSimpArgs false
set_option linter.unusedVariables false
theorem sumW_fold (l : List Int) : ∀ n, l.foldl (fun n k => wrap64 (n + k)) n = sumW n l := by
  induction l with
  | nil => intro n; rfl
  | cons k l ih => intro n; exact ih _
theorem topW_fold (l : List Int) : ∀ r, l.foldl (fun (r : Int × Bool) k => if r.2 = false ∨ r.1 < k then (k, true) else r) r = topW r l := by
  induction l with
  | nil => intro n; rfl
  | cons k l ih => intro n; exact ih _
theorem vis_sum (B p : Nat) (hp : B ≤ p) : Vis B 64 p p #[.pointer (some ⟨p, 0, none⟩)] (fun n k => wrap64 (n + k)) (fun n w => Blk w p #[.int .i64 n] 3) where
  enter := fun args w => by rfl
  lo := ⟨hp, hp⟩
  lt := fun q w h => ⟨h.lt, h.lt⟩
  stay := fun q w w' h hb => h.ext hb
  call := fun n q w hn h => by
    have c0 := h.cell 0
    have u0 := h.unfrozen 0
    have hs := h.set 0 (.int .i64 (wrap64 (q + n)))
    simp only [List.getElem?_toArray, List.getElem?_cons_zero, List.setIfInBounds_toArray, List.set_cons_zero] at c0 hs
    show Calls Tryd.prog 64 #[.int .i64 n, .pointer (some ⟨p, 0, none⟩)] w _
    go_enter Tryd.func64, Tryd.ntmps64
    go_wp2_with fail
    go_end0
    exact ⟨rfl, hs, ⟨rfl, rfl, rfl, by rw [size_setCell]; exact Nat.le_refl _, fun b hb h1 h2 h3 => Below.heap_setCell _ _ _ _ h1, .inl rfl⟩⟩
theorem vis_top (B p ps : Nat) (hp : B ≤ p) (hps : B ≤ ps) (hne : p ≠ ps) : Vis B 65 p ps #[.pointer (some ⟨ps, 0, none⟩), .pointer (some ⟨p, 0, none⟩)] (fun (r : Int × Bool) k => if r.2 = false ∨ r.1 < k then (k, true) else r) (fun r w => Blk w p #[.int .i64 r.1] 3 ∧ Blk w ps #[.bool r.2] 4) where
  enter := fun args w => by rfl
  lo := ⟨hp, hps⟩
  lt := fun q w h => ⟨h.1.lt, h.2.lt⟩
  stay := fun q w w' h hb => ⟨h.1.ext hb, h.2.ext hb⟩
  call := fun n q w hn h => by
    obtain ⟨m, s⟩ := q
    obtain ⟨h1, h2⟩ := h
    dsimp only at h1 h2
    have c0 := h1.cell 0
    have u0 := h1.unfrozen 0
    have d0 := h2.cell 0
    have v0 := h2.unfrozen 0
    have hs1 := (h1.set 0 (.int .i64 n)).oth ps 0 hne (.bool true)
    have hs2 := (h2.oth p 0 (fun e => hne e.symm) (.int .i64 n)).set 0 (.bool true)
    simp only [List.getElem?_toArray, List.getElem?_cons_zero, List.setIfInBounds_toArray, List.set_cons_zero] at c0 d0 hs1 hs2
    have ho : Own p ps p p w ((w.setCell ⟨p, 0, none⟩ (.int .i64 n)).setCell ⟨ps, 0, none⟩ (.bool true)) :=
      ⟨rfl, rfl, rfl, by simp only [size_setCell]; exact Nat.le_refl _, fun b hb h1 h2 h3 => (Below.heap_setCell _ _ _ _ h2).trans (Below.heap_setCell _ _ _ _ h1), .inl rfl⟩
    show Calls Tryd.prog 65 #[.int .i64 n, .pointer (some ⟨ps, 0, none⟩), .pointer (some ⟨p, 0, none⟩)] w _
    cases s with
    | false =>
      have HX : Hid ((if (m, false).2 = false ∨ (m, false).1 < n then (n, true) else (m, false)) = (n, true)) := if_pos (.inl rfl)
      rw [HX.out]
      go_enter Tryd.func65, Tryd.ntmps65
      go_wp2_with fail
      go_end0
      exact ⟨rfl, ⟨hs1, hs2⟩, ho⟩
    | true =>
      by_cases hlt : m < n
      · have HX : Hid ((if (m, true).2 = false ∨ (m, true).1 < n then (n, true) else (m, true)) = (n, true)) := if_pos (.inr hlt)
        rw [HX.out]
        go_enter Tryd.func65, Tryd.ntmps65
        go_wp2_with fail
        go_end0
        exact ⟨rfl, ⟨hs1, hs2⟩, ho⟩
      · have HX : Hid ((if (m, true).2 = false ∨ (m, true).1 < n then (n, true) else (m, true)) = (m, true)) := if_neg (by intro h; rcases h with h | h; cases h; exact hlt h)
        rw [HX.out]
        go_enter Tryd.func65, Tryd.ntmps65
        go_wp2_with fail
        go_end0
        exact ⟨rfl, ⟨h1, h2⟩, Own.refl _ _ _ _⟩
theorem truth_any (b : Bool) (w : World) : Calls Tryd.prog 66 #[.bool b] w fun e w' => e = .returned (.int .i64 (truth b)) ∧ w = w' := by
  cases b
  · go_enter Tryd.func66, Tryd.ntmps66
    go_wp2_with fail
    go_ret
    exact ⟨rfl, rfl⟩
  · go_enter Tryd.func66, Tryd.ntmps66
    go_wp2_with fail
    go_ret
    exact ⟨rfl, rfl⟩
end Go.Proofs.YtcecpggkeaohnaaDoor
