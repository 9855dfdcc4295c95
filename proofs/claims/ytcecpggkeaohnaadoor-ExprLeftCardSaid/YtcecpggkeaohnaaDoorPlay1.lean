/- The walks through the choice of playing, and what recovers. -/
import Derived.Test.YtcecpggkeaohnaaDoorMend2
import Derived.Defers
import Derived.Recover
namespace Go.Proofs.YtcecpggkeaohnaaDoor
set_option maxRecDepth 100000
open Go.RowKit
set_option linter.unusedSimpArgs false
set_option linter.unusedVariables false
/-! ### playing a tape -/
def stPlay (tape : List Int) (m : Int) (i : Nat) : Except Int (Int × Nat) := if h : i < tape.length then (if tape[i] < 0 ∨ m < tape[i] then .error 1 else .ok (tape[i], i + 1)) else .error 5
structure JPlay (w0 : World) (B p1 p2 : Nat) (tv : Value) (tape : List Int) (i : Nat) (g : Nat) (W : World) : Prop where
  old : ∀ b, b < w0.heap.size → W.heap[b]? = w0.heap[b]?
  size : B ≤ W.heap.size
  at' : Blk W p1 #[.int .i64 i] 3
  tp : Blk W p2 #[tv] 43
  le : i ≤ tape.length
  g : g = p1
set_option maxHeartbeats 2000000 in
theorem replay2_any (w0 : World) (B p1 p2 : Nat) (tv : Value) (tape : List Int) (h0 : w0.heap.size ≤ B) (ht : IntsAt w0 tv tape) (hp1 : B ≤ p1) (hp2 : B ≤ p2) (hne : p1 ≠ p2) (m : Int) (i g : Nat) (w : World) (hm0 : 0 ≤ m) (hm1 : m ≤ 1000) (hJ : JPlay w0 B p1 p2 tv tape i g w) :
    Calls Tryd.prog 45 #[.int .i64 m, .pointer (some ⟨p1, 0, none⟩), .pointer (some ⟨p2, 0, none⟩)] w fun e w' => match stPlay tape m i with
    | .ok (c, q') => e = .returned (.int .i64 c) ∧ ∃ g', JPlay w0 B p1 p2 tv tape q' g' w' ∧ Own p1 p2 g g' w w'
    | .error x => e = .panicked [{ v := .iface 63 (.int .i64 x), recovered := false }] ∧ ∃ g', Own p1 p2 g g' w w' := by
  have hb1 := hJ.at'
  have hb2 := hJ.tp
  have hti := ht.blocks hJ.old
  obtain ⟨ad, cap, rfl, hl, hmx, hin, hcells⟩ := hti.form
  have c1 := hb1.cell 0
  have c2 := hb2.cell 0
  have u1 := hb1.unfrozen 0
  have hle := hJ.le
  unfold maxLen at hmx
  simp only [List.getElem?_toArray, List.getElem?_cons_succ, List.getElem?_cons_zero] at c1 c2
  have hl1 := hb1.lt
  by_cases hlt : i < tape.length
  · obtain ⟨bl, off, rfl, hbl, hc⟩ := hcells (by omega)
    have hcx := hc i hlt
    rw [List.getD_eq_getElem?_getD, List.getElem?_eq_getElem hlt] at hcx
    simp only [Option.getD_some] at hcx
    have hti2 := hin tape[i] (List.getElem_mem hlt)
    have hS : stPlay tape m i = if tape[i] < 0 ∨ m < tape[i] then .error 1 else .ok (tape[i], i + 1) := by unfold stPlay; rw [dif_pos hlt]
    rw [hS]
    clear hS hc hcells
    generalize tape[i] = x at *
    have p1' : ((i : Int) == (tape.length : Int)) = false := by simp; omega
    have p2' : (i : Int) < (tape.length : Int) := by omega
    have p3' : (0 : Int) ≤ (i : Int) := by omega
    by_cases h1 : x < 0
    · rw [if_pos (.inl h1)]
      clear hlt
      go_enter Tryd.func45, Tryd.ntmps45
      go_wp2_with fail
      refine ⟨rfl, rfl, g, Own.refl _ _ _ _⟩
    · have p4' : ¬ x < 0 := h1
      by_cases h2 : m < x
      · rw [if_pos (.inr h2)]
        clear hlt
        go_enter Tryd.func45, Tryd.ntmps45
        go_wp2_with fail
        refine ⟨rfl, rfl, g, Own.refl _ _ _ _⟩
      · rw [if_neg (by omega)]
        have hii : i + 1 ≤ tape.length := by omega
        clear hlt
        go_enter Tryd.func45, Tryd.ntmps45
        go_wp2_with fail
        have hb3 := hb1.set 0 (.int .i64 ((i : Int) + 1))
        simp only [List.setIfInBounds_toArray, List.set_cons_zero] at hb3
        go_ret
        refine ⟨rfl, p1, ⟨fun b hb => ?_, by rw [size_setCell]; exact hJ.size, by simpa using hb3, hb2.oth p1 0 (fun e => hne e.symm) _, hii, rfl⟩, ⟨rfl, rfl, rfl, by rw [size_setCell]; exact Nat.le_refl _, fun b hb h1 h2 h3 => Below.heap_setCell _ _ _ _ h1, .inl hJ.g.symm⟩⟩
        rw [Below.heap_setCell _ _ _ _ (by dsimp only; omega)]
        exact hJ.old b hb
  · have hS : stPlay tape m i = .error 5 := by unfold stPlay; rw [dif_neg hlt]
    rw [hS]
    have p1' : ((i : Int) == (tape.length : Int)) = true := by simp; omega
    clear hcells hS hlt
    go_enter Tryd.func45, Tryd.ntmps45
    go_wp2_with fail
    refine ⟨rfl, rfl, g, Own.refl _ _ _ _⟩
theorem enter_replay2 (args : Array Value) (w : World) : Sem.run Tryd.prog (callFunc 45 args) w = .ok (.enter 45 args) w := by
  rfl
theorem stPlay_bd {tape : List Int} {m : Int} {q : Nat} {c : Int} {q' : Nat} (h : stPlay tape m q = .ok (c, q')) : 0 ≤ c ∧ c ≤ m := by
  unfold stPlay at h
  split at h
  · split at h
    · cases h
    · simp only [Except.ok.injEq, Prod.mk.injEq] at h
      rw [← h.1]
      omega
  · cases h
theorem cho_play (w0 : World) (B p1 p2 : Nat) (tv : Value) (tape : List Int) (h0 : w0.heap.size ≤ B) (ht : IntsAt w0 tv tape) (hp1 : B ≤ p1) (hp2 : B ≤ p2) (hne : p1 ≠ p2) :
    Cho B 45 p1 p2 (stPlay tape) (fun i g W => JPlay w0 B p1 p2 tv tape i g W) (fun _ => 1099511627776) where
  enter := enter_replay2
  bd := fun m q c q' hm h => stPlay_bd h
  bdd := fun m q c q' hm h => by omega
  stay := fun q g w w' h hz hk => by
    have hsz := h.size
    exact ⟨fun b hb => (hk b (by omega) (.inl (by omega))).trans (h.old b hb), by omega, (hk _ h.at'.lt (by simp)).trans h.at', (hk _ h.tp.lt (by simp)).trans h.tp, h.le, h.g⟩
  lt := fun q g w h => ⟨hp1, h.at'.lt, hp2, h.tp.lt, by rw [h.g]; exact hp1, by rw [h.g]; exact h.at'.lt⟩
  call := fun m q g w hm0 hm1 hb hJ => by
    refine (replay2_any w0 B p1 p2 tv tape h0 ht hp1 hp2 hne m q g w hm0 hm1 hJ).mono ?_
    intro e w' h
    cases hs : stPlay tape m q with
    | error x => rw [hs] at h; exact h
    | ok r => rw [hs] at h; obtain ⟨c, q'⟩ := r; exact h
theorem catch_idle (p q : Addr) (w : World) :
    CallsD Tryd.prog 44 #[.pointer (some p), .pointer (some q)] .returning w fun e u' w' => e = .returned (.tuple #[]) ∧ u' = .returning ∧ w' = w := by
  refine callsD_of_wpS Tryd.func44 rfl fun c₀ cs hu => ?_
  simp only [Tryd.ntmps44, List.size_toArray, List.length_cons, List.length_nil, Nat.reduceAdd, Nat.reduceSub, Array.replicate_succ, Array.replicate_zero, List.push_toArray, List.append_toArray, List.nil_append, List.cons_append]
  apply wpS_seq
  apply wpS_region
  simp [wpOpsS, go_sem, recoverD, hu, Exit.thenS]
  refine wpS_of_wp ?_
  go_wp2_with fail
  cases c₀
  simp_all [bodyPostS, results, Tryd.results44]
set_option maxHeartbeats 1000000 in
theorem catch_panicking (p q : Nat) (x : Int) (o0 o1 o2 ov : Value) (older : List PanicEntry) (w : World) (hp : Blk w p #[o0, o1, o2] 27) (hq : Blk w q #[ov] 30) (hne : p ≠ q) :
    CallsD Tryd.prog 44 #[.pointer (some ⟨p, 0, none⟩), .pointer (some ⟨q, 0, none⟩)] (.panicking ({ v := .iface 63 (.int .i64 x), recovered := false } :: older)) w fun e u' w' =>
      e = .returned (.tuple #[]) ∧ u' = .panicking ({ v := .iface 63 (.int .i64 x), recovered := true } :: older) ∧
      w' = (((w.setCell ⟨p, 0, none⟩ (.bool false)).setCell ⟨p, 1, none⟩ (.int .i64 0)).setCell ⟨p, 2, none⟩ (.slice none 0 0)).setCell ⟨q, 0, none⟩ (.iface 63 (.int .i64 x)) := by
  have d0 := hp.cell 0
  have d1 := hp.cell 1
  have d2 := hp.cell 2
  have u0 := hp.unfrozen 0
  have u1 := hp.unfrozen 1
  have u2 := hp.unfrozen 2
  have d3 := hq.cell 0
  have u3 := hq.unfrozen 0
  simp only [List.getElem?_toArray, List.getElem?_cons_succ, List.getElem?_cons_zero] at d0 d1 d2 d3
  refine callsD_of_wpS Tryd.func44 rfl fun c₀ cs hu => ?_
  simp only [Tryd.ntmps44, List.size_toArray, List.length_cons, List.length_nil, Nat.reduceAdd, Nat.reduceSub, Array.replicate_succ, Array.replicate_zero, List.push_toArray, List.append_toArray, List.nil_append, List.cons_append]
  apply wpS_seq
  apply wpS_region
  simp [wpOpsS, go_sem, recoverD, hu, Exit.thenS]
  refine wpS_of_wp ?_
  have hta : ∀ (n : Int) (w : World), Sem.run Tryd.prog (Instr.typeAssert (.iface 63 (.int .i64 n)) 20 63 true) w = .ok (.tuple #[.int .i64 n, .bool true]) w := fun n w => by rfl
  go_wp2_with fail

  cases c₀
  simp_all [bodyPostS, results, Tryd.results44]
end Go.Proofs.YtcecpggkeaohnaaDoor
