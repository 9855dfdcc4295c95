/- The walk through the choice of mending. -/
import Derived.Test.YtcecpggkeaohnaaDoorMadeE
import Derived.Test.YtcecpggkeaohnaaDoorOwn
import Derived.Deep.DeepCutAuto
namespace Go.Proofs.YtcecpggkeaohnaaDoor
set_option maxRecDepth 100000
open Go.RowKit
set_option linter.unusedSimpArgs false
set_option linter.unusedVariables false
theorem GT.costL_parts (s : List GT) (d c : Nat) (ih : ∀ x ∈ s, (GT.parts x (d + 1)).2 = true → GT.cost x ≤ (GT.parts x (d + 1)).1 * c) : ∀ r : Nat × Bool, (GT.partsL s d r).2 = true → GT.costL s + r.1 * c ≤ (GT.partsL s d r).1 * c := by
  induction s with
  | nil => intro r h; simp [GT.costL, GT.partsL]
  | cons x s ihs =>
    intro r h
    simp only [GT.partsL] at h ⊢
    split at h
    · rename_i hr
      rw [if_pos hr]
      have h1 := (GT.partsL_ok s d _ h).1
      simp only [Bool.and_eq_true, decide_eq_true_eq] at h1
      have h2 := ihs (fun y hy => ih y (by simp [hy])) _ h
      have h3 := ih x (by simp) h1.1
      simp only [Nat.add_mul] at h2
      simp only [GT.costL]
      omega
    · rename_i hr; exact absurd h hr
theorem GT.cost_parts (g : GT) : ∀ d, (GT.parts g d).2 = true → GT.cost g ≤ (GT.parts g d).1 * 6 ^ (6 - d) := by
  induction g using GT.ind with
  | h k a b s ih =>
    intro d h
    have hk := GT.parts_kids h
    simp only [GT.parts, Bool.and_eq_true, decide_eq_true_eq] at h
    have hL := GT.costL_parts s d (6 ^ (6 - (d + 1))) (fun x hx => ih x hx (d + 1)) _ h.1
    simp only at hL
    have hp : 6 ^ (6 - d) = 6 ^ (6 - (d + 1)) * 6 := by rw [← Nat.pow_succ]; congr 1; omega
    have hpos : 1 ≤ 6 ^ (6 - (d + 1)) := Nat.one_le_pow _ _ (by omega)
    simp only [GT.parts]
    have hge := (GT.partsL_ok s d _ h.1).2.2
    simp only at hge
    rw [hp, ← Nat.mul_assoc]
    generalize 6 ^ (6 - (d + 1)) = c at *
    generalize (GT.partsL s d (1, decide (d < 6))).1 = n at *
    have h6 : n * c * 6 = 6 * (n * c) := by omega
    have h1 : 1 * c ≤ n * c := Nat.mul_le_mul_right _ (by omega)
    simp only [GT.cost]
    split
    · omega
    · split
      · omega
      · split
        · omega
        · split <;> omega
theorem GT.cost_ok {g : GT} (h : GT.check g = 0) : GT.cost g ≤ 1399680 := by
  have hp := GT.check_parts h
  have h1 := GT.cost_parts g 0 hp
  cases g with
  | mk k a b s =>
    have h2 := hp
    simp only [GT.parts, Bool.and_eq_true, decide_eq_true_eq] at h2
    have h3 : (GT.parts (.mk k a b s) 0).1 ≤ 30 := by simp only [GT.parts]; exact h2.2
    have h4 : (GT.parts (.mk k a b s) 0).1 * 6 ^ (6 - 0) ≤ 30 * 6 ^ (6 - 0) := Nat.mul_le_mul_right _ h3
    omega
theorem IntsAt.blocks {w w' : World} {v : Value} {l : List Int} (h : IntsAt w v l) (hb : ∀ b, b < w.heap.size → w'.heap[b]? = w.heap[b]?) : IntsAt w' v l := by
  refine ⟨h.1, ?_⟩
  rcases h.2 with h | ⟨a, cap, h1, h2, h3, h4⟩
  · exact .inl h
  · refine .inr ⟨a, cap, h1, h2, h3, fun i hi => ?_⟩
    rw [World.cell?_of_block (hb _ (World.block_lt_of_cell? w _ (h4 i hi)))]
    exact h4 i hi
/-! ### mending -/
def mendAt (tape : List Int) (m : Int) (out : List Int) : Int := if h : out.length < tape.length then max 0 (min tape[out.length] m) else 0
def stMend (tape : List Int) (m : Int) (out : List Int) : Except Int (Int × List Int) := .ok (mendAt tape m out, out ++ [mendAt tape m out])
theorem mendAt_bd (tape : List Int) (m : Int) (out : List Int) (hm : 0 ≤ m) : 0 ≤ mendAt tape m out ∧ mendAt tape m out ≤ m := by
  unfold mendAt
  split <;> omega
structure JMend (w0 : World) (B p1 p2 : Nat) (tv : Value) (out : List Int) (g : Nat) (W : World) : Prop where
  old : ∀ b, b < w0.heap.size → W.heap[b]? = w0.heap[b]?
  size : B ≤ W.heap.size
  own : ∃ ov, Blk W p1 #[ov] 43 ∧ OwnInts W B ov out ∧ ((ov.ownBlock = none ∧ g = p1) ∨ (ov.ownBlock = some g ∧ g ≠ p1 ∧ g ≠ p2))
  tape : Blk W p2 #[tv] 43
  in64 : ∀ n ∈ out, In64 n
theorem JMend.stay {w0 : World} {B p1 p2 : Nat} {tv : Value} {out : List Int} {g : Nat} {w w' : World} (h0 : w0.heap.size ≤ B) (h : JMend w0 B p1 p2 tv out g w) (hz : w.heap.size ≤ w'.heap.size)
    (hk : ∀ b, b < w.heap.size → (b < B ∨ b = p1 ∨ b = p2 ∨ b = g) → w'.heap[b]? = w.heap[b]?) : JMend w0 B p1 p2 tv out g w' := by
  obtain ⟨ov, h1, h2, h3⟩ := h.own
  have hsz := h.size
  refine ⟨fun b hb => (hk b (by omega) (.inl (by omega))).trans (h.old b hb), by omega, ⟨ov, (hk _ h1.lt (by simp)).trans h1, ⟨h2.1, ?_⟩, h3⟩, (hk _ h.tape.lt (by simp)).trans h.tape, h.in64⟩
  rcases h2.2 with h4 | ⟨g', cap, cur, hv, hg, hh, r⟩
  · exact .inl h4
  · have hlt : g' < w.heap.size := (Array.getElem?_eq_some_iff.1 hh).1
    have hgg : g' = g := by
      rcases h3 with ⟨h3, _⟩ | ⟨h3, _⟩
      · rw [hv] at h3; cases h3
      · rw [hv] at h3; exact Option.some.inj h3
    exact .inr ⟨g', cap, cur, hv, hg, (hk g' hlt (by simp [hgg])).trans hh, r⟩
theorem append_int1 {w : World} {ops : Array Oper} {rest : List Oper} {o : Oper} {a : Act} {Q : Exit → Act → World → Prop} (hgd : o.guard = none) (s x : Operand)
    (ho : o.op = .call { callee := .builtin .append, args := #[s, x], argTypes := #[43, 43] })
    {base : Nat} {v : Value} {xs : List Int} (hs : a.eval s = v) (hown : OwnInts w base v xs)
    {b : Nat} {y : Int} (hx : a.eval x = .slice (some ⟨b, 0, none⟩) 1 1) (hb : Blk w b #[.int .i64 y] 3) (hbytes : (xs.length + 1) * 8 ≤ 140737488355328) (hbase : base ≤ w.heap.size)
    (h : ∀ g cap w', OwnInts w' base (.slice (some ⟨g, 0, none⟩) (xs.length + 1) cap) (xs ++ [y]) → w.grownBy w' v.ownBlock → (v.ownBlock = some g ∨ g = w.heap.size) → g < w'.heap.size →
      wpList Tryd.prog ops Q rest (a.put o.dst (.slice (some ⟨g, 0, none⟩) (xs.length + 1) cap)) w') : wpList Tryd.prog ops Q (o :: rest) a w := by
  obtain ⟨i, hi, hz0, hz1, hz2⟩ := info_parts info_int
  refine wpList_append_lies w hgd s x 43 ho base 3 i (.int .i64 0) 1 8 Tryd.underlying43 hi hz0 hz1 hz2 rfl (by decide) v xs.length _ hs hown ⟨b, 0, none⟩ 1 1 [.int .i64 y] hx rfl (World.news_of_block hb) (by simp [Value.oneCell']) (by decide) (by unfold maxLen; omega) (by omega) hbase w.heap.size rfl ?_
  intro g cap w' h1 h2 h3 h4
  refine h g cap w' ?_ h2 h3 h4
  unfold OwnInts
  simpa using h1
/-- Behind an append of a choice, and the store of the slice. -/
theorem JMend.next {w0 : World} {B p1 p2 : Nat} {tv : Value} {out : List Int} {g : Nat} {w w5 w6 : World} {x : Int} {ov : Value} {gi cap : Nat} (h0 : w0.heap.size ≤ B) (hp1 : B ≤ p1) (hp2 : B ≤ p2) (hne : p1 ≠ p2) (hJ : JMend w0 B p1 p2 tv out g w)
    (hb1 : Blk w p1 #[ov] 43) (hg : (ov.ownBlock = none ∧ g = p1) ∨ (ov.ownBlock = some g ∧ g ≠ p1 ∧ g ≠ p2)) (hB : Below w.heap.size w w5) (hx : In64 x)
    (how : OwnInts w6 B (.slice (some ⟨gi, 0, none⟩) (out.length + 1) cap) (out ++ [x])) (hgr : w5.grownBy w6 ov.ownBlock) (hat : ov.ownBlock = some gi ∨ gi = w5.heap.size) :
    JMend w0 B p1 p2 tv (out ++ [x]) gi (w6.setCell ⟨p1, 0, none⟩ (.slice (some ⟨gi, 0, none⟩) (out.length + 1) cap)) ∧ Own p1 p2 g gi w (w6.setCell ⟨p1, 0, none⟩ (.slice (some ⟨gi, 0, none⟩) (out.length + 1) cap)) := by
  have hz5 := hB.size
  have hz6 := hgr.size
  have hsz := hJ.size
  have hl1 := hb1.lt
  have hl2 := hJ.tape.lt
  have hogn : ∀ k, ov.ownBlock = some k → k = g ∧ k ≠ p1 ∧ k ≠ p2 := by
    intro k hk
    rcases hg with ⟨e, _⟩ | ⟨e, e1, e2⟩
    · rw [e] at hk; cases hk
    · rw [e] at hk; have := Option.some.inj hk; subst this; exact ⟨rfl, e1, e2⟩
  have hgb : B ≤ gi := by
    rcases how.2 with ⟨hv, _⟩ | ⟨g', cap', cur, hv, hg', _⟩
    · cases hv
    · simp at hv; omega
  have hgi : gi ≠ p1 ∧ gi ≠ p2 := by
    rcases hat with e | e
    · exact (hogn _ e).2
    · omega
  have hk6 : ∀ b, b < w.heap.size → b ≠ p1 → ov.ownBlock ≠ some b → (w6.setCell ⟨p1, 0, none⟩ (.slice (some ⟨gi, 0, none⟩) (out.length + 1) cap)).heap[b]? = w.heap[b]? := by
    intro b hb h1 h2
    rw [Below.heap_setCell _ _ _ _ h1, hgr.block b (by omega) (fun e => h2 e.symm)]
    exact hB.block b hb
  have hbig : ∀ k, ov.ownBlock = some k → B ≤ k := by
    intro k hk
    have := hogn k hk
    obtain ⟨ov2, h1, h2, h3⟩ := hJ.own
    have e : ov2 = ov := by
      have := h1.symm.trans hb1
      simpa using this
    subst e
    exact (World.ownsRow.lt h2 k hk).1
  have hb6 : Blk w6 p1 #[ov] 43 := (hgr.block p1 (by omega) (fun e => (hogn _ e.symm).2.1 rfl)).trans ((hB.block p1 hl1).trans hb1)
  refine ⟨⟨fun b hb => ?_, by rw [size_setCell]; omega, ⟨.slice (some ⟨gi, 0, none⟩) (out.length + 1) cap, ?_, ?_, .inr ⟨rfl, hgi⟩⟩, ?_, ?_⟩, ⟨?_, ?_, ?_, by rw [size_setCell]; omega, fun b hb h1 h2 h3 => ?_, ?_⟩⟩
  · rw [hk6 b (by omega) (by omega) (fun e => by have := hbig b e; omega)]
    exact hJ.old b hb
  · have := hb6.set 0 (.slice (some ⟨gi, 0, none⟩) (out.length + 1) cap)
    simpa using this
  · refine ⟨how.1, ?_⟩
    rcases how.2 with h4 | ⟨g', cap', cur, hv, hg', hh, r⟩
    · exact .inl h4
    · refine .inr ⟨g', cap', cur, hv, hg', ?_, r⟩
      simp at hv
      rw [Below.heap_setCell _ _ _ _ (by dsimp only; omega)]
      exact hh
  · exact (hk6 p2 hl2 (fun e => hne e.symm) (fun e => (hogn _ e).2.2 rfl)).trans hJ.tape
  · intro n hn
    rcases List.mem_append.1 hn with hn | hn
    · exact hJ.in64 n hn
    · simp at hn; rw [hn]; exact hx
  · exact (show (w6.setCell _ _).os = w6.os from rfl).trans (hgr.os.trans hB.os)
  · exact (show (w6.setCell _ _).tape = w6.tape from rfl).trans (hgr.tape.trans hB.tape)
  · exact (show (w6.setCell _ _).output = w6.output from rfl).trans (hgr.output.trans hB.output)
  · exact hk6 b hb h1 (fun e => h3 (hogn b e).1)
  · rcases hat with e | e
    · exact .inl (hogn _ e).1
    · right; omega
set_option maxHeartbeats 2000000 in
theorem mend1_any (w0 : World) (B p1 p2 : Nat) (tv : Value) (tape : List Int) (h0 : w0.heap.size ≤ B) (ht : IntsAt w0 tv tape) (hp1 : B ≤ p1) (hp2 : B ≤ p2) (hne : p1 ≠ p2) (m : Int) (out : List Int) (g : Nat) (w : World) (hm0 : 0 ≤ m) (hm1 : m ≤ 1000) (hlen : out.length ≤ 1099511627776) (hJ : JMend w0 B p1 p2 tv out g w) :
    Calls Tryd.prog 55 #[.int .i64 m, .pointer (some ⟨p1, 0, none⟩), .pointer (some ⟨p2, 0, none⟩)] w fun e w' => e = .returned (.int .i64 (mendAt tape m out)) ∧ ∃ g', JMend w0 B p1 p2 tv (out ++ [mendAt tape m out]) g' w' ∧ Own p1 p2 g g' w w' := by
  obtain ⟨ov, hb1, how, hg⟩ := hJ.own
  have hb2 := hJ.tape
  have hti := ht.blocks hJ.old
  obtain ⟨ad, cap, rfl, hl, hmx, hin, hcells⟩ := hti.form
  obtain ⟨oad, ocap, hov, hol, hom, hoin, hocells⟩ := (how.at hJ.in64).form
  have c1 := hb1.cell 0
  have c2 := hb2.cell 0
  have u1 := hb1.unfrozen 0
  simp only [List.getElem?_toArray, List.getElem?_cons_succ, List.getElem?_cons_zero] at c1 c2
  have hbd := mendAt_bd tape m out hm0
  have hogn : ov.ownBlock ≠ some p1 := by
    rcases hg with ⟨e, _⟩ | ⟨e, e1, _⟩
    · rw [e]; simp
    · rw [e]; simpa using e1
  by_cases hlt : out.length < tape.length
  · have hx : mendAt tape m out = max 0 (min tape[out.length] m) := by simp [mendAt, hlt]
    obtain ⟨bl, off, rfl, hbl, hc⟩ := hcells (by omega)
    have hcx := hc out.length hlt
    rw [List.getD_eq_getElem?_getD, List.getElem?_eq_getElem hlt] at hcx
    simp only [Option.getD_some] at hcx
    have hti2 := hin tape[out.length] (List.getElem_mem hlt)
    generalize htx : tape[out.length] = tx at *
    have hX := Lib.hid hx
    clear hx hc hcells hocells htx
    subst hov
    generalize mendAt tape m out = x at *
    have p1' : (out.length : Int) < (tape.length : Int) := by omega
    have hc4 : (m < tx ∧ 0 < m ∧ x = m) ∨ (m < tx ∧ m = 0 ∧ x = 0) ∨ (¬ m < tx ∧ 0 < tx ∧ x = tx) ∨ (¬ m < tx ∧ ¬ 0 < tx ∧ x = 0) := by
      have := hX.out
      omega
    rcases hc4 with ⟨k1, k2, k3⟩ | ⟨k1, k2, k3⟩ | ⟨k1, k2, k3⟩ | ⟨k1, k2, k3⟩
    all_goals
      subst k3
      try subst k2
      clear hX
      go_enter Tryd.func55, Tryd.ntmps55
      go_wp2_with (at_builtin; refine append_int1 (o := ⟨some 22, _, _, _, _, _⟩) rfl _ _ rfl rfl (how.kept (by repeat (first | with_reducible assumption | with_reducible exact Below.refl _ _ | with_reducible apply Below.drew | (with_reducible refine Below.alloc ?_ (by first | omega | (simp only [World.size_alloc, size_setCell, size_drew, size_drewN]; omega) | (dsimp only; omega) | (simp only [World.size_alloc, size_setCell, size_drew, size_drewN]; dsimp only; omega)) _) | (with_reducible refine Below.setCell ?_ (by first | omega | (simp only [World.size_alloc, size_setCell, size_drew, size_drewN]; omega) | (dsimp only; omega) | (simp only [World.size_alloc, size_setCell, size_drew, size_drewN]; dsimp only; omega)) _) | (with_reducible apply below_drewN)))) rfl (Blk.new _ _ _) (by omega) (by have := hJ.size; simp; omega) ?_; intro gi capi w6 h1 h2 h3 h4; have b6 := (h2.block p1 (by have := hb1.lt; simp; omega) (fun e => hogn e.symm)).trans (hb1.alloc _); have c6 := Blk.cell b6 0; have u6 := Blk.unfrozen b6 0; simp only [List.getElem?_toArray, List.getElem?_cons_succ, List.getElem?_cons_zero] at c6)
      go_ret
      exact ⟨rfl, gi, hJ.next h0 hp1 hp2 hne hb1 hg (by repeat (first | with_reducible assumption | with_reducible exact Below.refl _ _ | with_reducible apply Below.drew | (with_reducible refine Below.alloc ?_ (by first | omega | (simp only [World.size_alloc, size_setCell, size_drew, size_drewN]; omega) | (dsimp only; omega) | (simp only [World.size_alloc, size_setCell, size_drew, size_drewN]; dsimp only; omega)) _) | (with_reducible refine Below.setCell ?_ (by first | omega | (simp only [World.size_alloc, size_setCell, size_drew, size_drewN]; omega) | (dsimp only; omega) | (simp only [World.size_alloc, size_setCell, size_drew, size_drewN]; dsimp only; omega)) _) | (with_reducible apply below_drewN))) ⟨by omega, by omega⟩ h1 h2 h3⟩
  · have hx : mendAt tape m out = 0 := by simp [mendAt, hlt]
    clear hcells hocells
    subst hov
    generalize mendAt tape m out = x at *
    subst hx
    have p1' : ¬ (out.length : Int) < (tape.length : Int) := by omega
    go_enter Tryd.func55, Tryd.ntmps55
    go_wp2_with (at_builtin; refine append_int1 (o := ⟨some 22, _, _, _, _, _⟩) rfl _ _ rfl rfl (how.kept (by repeat (first | with_reducible assumption | with_reducible exact Below.refl _ _ | with_reducible apply Below.drew | (with_reducible refine Below.alloc ?_ (by first | omega | (simp only [World.size_alloc, size_setCell, size_drew, size_drewN]; omega) | (dsimp only; omega) | (simp only [World.size_alloc, size_setCell, size_drew, size_drewN]; dsimp only; omega)) _) | (with_reducible refine Below.setCell ?_ (by first | omega | (simp only [World.size_alloc, size_setCell, size_drew, size_drewN]; omega) | (dsimp only; omega) | (simp only [World.size_alloc, size_setCell, size_drew, size_drewN]; dsimp only; omega)) _) | (with_reducible apply below_drewN)))) rfl (Blk.new _ _ _) (by omega) (by have := hJ.size; simp; omega) ?_; intro gi capi w6 h1 h2 h3 h4; have b6 := (h2.block p1 (by have := hb1.lt; simp; omega) (fun e => hogn e.symm)).trans (hb1.alloc _); have c6 := Blk.cell b6 0; have u6 := Blk.unfrozen b6 0; simp only [List.getElem?_toArray, List.getElem?_cons_succ, List.getElem?_cons_zero] at c6)
    go_ret
    exact ⟨rfl, gi, hJ.next h0 hp1 hp2 hne hb1 hg (by repeat (first | with_reducible assumption | with_reducible exact Below.refl _ _ | with_reducible apply Below.drew | (with_reducible refine Below.alloc ?_ (by first | omega | (simp only [World.size_alloc, size_setCell, size_drew, size_drewN]; omega) | (dsimp only; omega) | (simp only [World.size_alloc, size_setCell, size_drew, size_drewN]; dsimp only; omega)) _) | (with_reducible refine Below.setCell ?_ (by first | omega | (simp only [World.size_alloc, size_setCell, size_drew, size_drewN]; omega) | (dsimp only; omega) | (simp only [World.size_alloc, size_setCell, size_drew, size_drewN]; dsimp only; omega)) _) | (with_reducible apply below_drewN))) ⟨by omega, by omega⟩ h1 h2 h3⟩
end Go.Proofs.YtcecpggkeaohnaaDoor
