/- The walk through the choice of mending. The walk through Mend. The walks through the choice of playing, and what recovers. The walk through Replay. -/
import Derived.Test.YtocngjpjheockaaMAD
import Derived.Test.YtocngjpjheockaaGENC
import Derived.Deep.DeepCutAuto
import Derived.Defers
import Derived.Recover
namespace Go.Proofs.Ytocngjpjheockaa
set_option maxRecDepth 100000
open Go.RowKit
set_option linter.unusedSimpArgs false
set_option linter.unusedVariables false
theorem GT.costL_parts (s : List GT) (d c : Nat) (ih : ∀ x ∈ s, (GT.parts x (d + 1)).2 = true → GT.cost x ≤ (GT.parts x (d + 1)).1 * c) : ∀ r : Nat × Bool, (GT.partsL s d r).2 = true → GT.costL s + r.1 * c ≤ (GT.partsL s d r).1 * c := by
  induction s with
  | nil => intro r h; simp [GT.costL, GT.partsL]
  | cons x s ihs =>
    intro r h
    simp only [GT.partsL] at h ⊢
    split at h
    · rename_i hr
      rw [if_pos hr]
      have h1 := (GT.partsL_ok s d _ h).1
      simp only [Bool.and_eq_true, decide_eq_true_eq] at h1
      have h2 := ihs (fun y hy => ih y (by simp [hy])) _ h
      have h3 := ih x (by simp) h1.1
      simp only [Nat.add_mul] at h2
      simp only [GT.costL]
      omega
    · rename_i hr; exact absurd h hr
theorem GT.cost_parts (g : GT) : ∀ d, (GT.parts g d).2 = true → GT.cost g ≤ (GT.parts g d).1 * 6 ^ (6 - d) := by
  induction g using GT.ind with
  | h k a b s ih =>
    intro d h
    have hk := GT.parts_kids h
    simp only [GT.parts, Bool.and_eq_true, decide_eq_true_eq] at h
    have hL := GT.costL_parts s d (6 ^ (6 - (d + 1))) (fun x hx => ih x hx (d + 1)) _ h.1
    simp only at hL
    have hp : 6 ^ (6 - d) = 6 ^ (6 - (d + 1)) * 6 := by rw [← Nat.pow_succ]; congr 1; omega
    have hpos : 1 ≤ 6 ^ (6 - (d + 1)) := Nat.one_le_pow _ _ (by omega)
    simp only [GT.parts]
    have hge := (GT.partsL_ok s d _ h.1).2.2
    simp only at hge
    rw [hp, ← Nat.mul_assoc]
    generalize 6 ^ (6 - (d + 1)) = c at *
    generalize (GT.partsL s d (1, decide (d < 6))).1 = n at *
    have h6 : n * c * 6 = 6 * (n * c) := by omega
    have h1 : 1 * c ≤ n * c := Nat.mul_le_mul_right _ (by omega)
    simp only [GT.cost]
    split
    · omega
    · split
      · omega
      · split
        · omega
        · split <;> omega
theorem GT.cost_ok {g : GT} (h : GT.check g = 0) : GT.cost g ≤ 1399680 := by
  have hp := GT.check_parts h
  have h1 := GT.cost_parts g 0 hp
  cases g with
  | mk k a b s =>
    have h2 := hp
    simp only [GT.parts, Bool.and_eq_true, decide_eq_true_eq] at h2
    have h3 : (GT.parts (.mk k a b s) 0).1 ≤ 30 := by simp only [GT.parts]; exact h2.2
    have h4 : (GT.parts (.mk k a b s) 0).1 * 6 ^ (6 - 0) ≤ 30 * 6 ^ (6 - 0) := Nat.mul_le_mul_right _ h3
    omega
theorem IntsAt.blocks {w w' : World} {v : Value} {l : List Int} (h : IntsAt w v l) (hb : ∀ b, b < w.heap.size → w'.heap[b]? = w.heap[b]?) : IntsAt w' v l := by
  refine ⟨h.1, ?_⟩
  rcases h.2 with h | ⟨a, cap, h1, h2, h3, h4⟩
  · exact .inl h
  · refine .inr ⟨a, cap, h1, h2, h3, fun i hi => ?_⟩
    rw [World.cell?_of_block (hb _ (World.block_lt_of_cell? w _ (h4 i hi)))]
    exact h4 i hi
/-! ### mending -/
def mendAt (tape : List Int) (m : Int) (out : List Int) : Int := if h : out.length < tape.length then max 0 (min tape[out.length] m) else 0
def stMend (tape : List Int) (m : Int) (out : List Int) : Except Int (Int × List Int) := .ok (mendAt tape m out, out ++ [mendAt tape m out])
theorem mendAt_bd (tape : List Int) (m : Int) (out : List Int) (hm : 0 ≤ m) : 0 ≤ mendAt tape m out ∧ mendAt tape m out ≤ m := by
  unfold mendAt
  split <;> omega
structure JMend (w0 : World) (B p1 p2 : Nat) (tv : Value) (out : List Int) (g : Nat) (W : World) : Prop where
  old : ∀ b, b < w0.heap.size → W.heap[b]? = w0.heap[b]?
  size : B ≤ W.heap.size
  own : ∃ ov, Blk W p1 #[ov] 38 ∧ OwnInts W B ov out ∧ ((ov.ownBlock = none ∧ g = p1) ∨ (ov.ownBlock = some g ∧ g ≠ p1 ∧ g ≠ p2))
  tape : Blk W p2 #[tv] 38
  in64 : ∀ n ∈ out, In64 n
theorem JMend.stay {w0 : World} {B p1 p2 : Nat} {tv : Value} {out : List Int} {g : Nat} {w w' : World} (h0 : w0.heap.size ≤ B) (h : JMend w0 B p1 p2 tv out g w) (hz : w.heap.size ≤ w'.heap.size)
    (hk : ∀ b, b < w.heap.size → (b < B ∨ b = p1 ∨ b = p2 ∨ b = g) → w'.heap[b]? = w.heap[b]?) : JMend w0 B p1 p2 tv out g w' := by
  obtain ⟨ov, h1, h2, h3⟩ := h.own
  have hsz := h.size
  refine ⟨fun b hb => (hk b (by omega) (.inl (by omega))).trans (h.old b hb), by omega, ⟨ov, (hk _ h1.lt (by simp)).trans h1, ⟨h2.1, ?_⟩, h3⟩, (hk _ h.tape.lt (by simp)).trans h.tape, h.in64⟩
  rcases h2.2 with h4 | ⟨g', cap, cur, hv, hg, hh, r⟩
  · exact .inl h4
  · have hlt : g' < w.heap.size := (Array.getElem?_eq_some_iff.1 hh).1
    have hgg : g' = g := by
      rcases h3 with ⟨h3, _⟩ | ⟨h3, _⟩
      · rw [hv] at h3; cases h3
      · rw [hv] at h3; exact Option.some.inj h3
    exact .inr ⟨g', cap, cur, hv, hg, (hk g' hlt (by simp [hgg])).trans hh, r⟩
theorem append_int1 {w : World} {ops : Array Oper} {rest : List Oper} {o : Oper} {a : Act} {Q : Exit → Act → World → Prop} (hgd : o.guard = none) (s x : Operand)
    (ho : o.op = .call { callee := .builtin .append, args := #[s, x], argTypes := #[38, 38] })
    {base : Nat} {v : Value} {xs : List Int} (hs : a.eval s = v) (hown : OwnInts w base v xs)
    {b : Nat} {y : Int} (hx : a.eval x = .slice (some ⟨b, 0, none⟩) 1 1) (hb : Blk w b #[.int .i64 y] 3) (hbytes : (xs.length + 1) * 8 ≤ 140737488355328) (hbase : base ≤ w.heap.size)
    (h : ∀ g cap w', OwnInts w' base (.slice (some ⟨g, 0, none⟩) (xs.length + 1) cap) (xs ++ [y]) → w.grownBy w' v.ownBlock → (v.ownBlock = some g ∨ g = w.heap.size) → g < w'.heap.size →
      wpList Try.prog ops Q rest (a.put o.dst (.slice (some ⟨g, 0, none⟩) (xs.length + 1) cap)) w') : wpList Try.prog ops Q (o :: rest) a w := by
  obtain ⟨i, hi, hz0, hz1, hz2⟩ := info_parts info_int
  refine wpList_append_lies w hgd s x 38 ho base 3 i (.int .i64 0) 1 8 Try.underlying38 hi hz0 hz1 hz2 rfl (by decide) v xs.length _ hs hown ⟨b, 0, none⟩ 1 1 [.int .i64 y] hx rfl (World.news_of_block hb) (by simp [Value.oneCell']) (by decide) (by unfold maxLen; omega) (by omega) hbase w.heap.size rfl ?_
  intro g cap w' h1 h2 h3 h4
  refine h g cap w' ?_ h2 h3 h4
  unfold OwnInts
  simpa using h1
/-- Behind an append of a choice, and the store of the slice. -/
theorem JMend.next {w0 : World} {B p1 p2 : Nat} {tv : Value} {out : List Int} {g : Nat} {w w5 w6 : World} {x : Int} {ov : Value} {gi cap : Nat} (h0 : w0.heap.size ≤ B) (hp1 : B ≤ p1) (hp2 : B ≤ p2) (hne : p1 ≠ p2) (hJ : JMend w0 B p1 p2 tv out g w)
    (hb1 : Blk w p1 #[ov] 38) (hg : (ov.ownBlock = none ∧ g = p1) ∨ (ov.ownBlock = some g ∧ g ≠ p1 ∧ g ≠ p2)) (hB : Below w.heap.size w w5) (hx : In64 x)
    (how : OwnInts w6 B (.slice (some ⟨gi, 0, none⟩) (out.length + 1) cap) (out ++ [x])) (hgr : w5.grownBy w6 ov.ownBlock) (hat : ov.ownBlock = some gi ∨ gi = w5.heap.size) :
    JMend w0 B p1 p2 tv (out ++ [x]) gi (w6.setCell ⟨p1, 0, none⟩ (.slice (some ⟨gi, 0, none⟩) (out.length + 1) cap)) ∧ Own p1 p2 g gi w (w6.setCell ⟨p1, 0, none⟩ (.slice (some ⟨gi, 0, none⟩) (out.length + 1) cap)) := by
  have hz5 := hB.size
  have hz6 := hgr.size
  have hsz := hJ.size
  have hl1 := hb1.lt
  have hl2 := hJ.tape.lt
  have hogn : ∀ k, ov.ownBlock = some k → k = g ∧ k ≠ p1 ∧ k ≠ p2 := by
    intro k hk
    rcases hg with ⟨e, _⟩ | ⟨e, e1, e2⟩
    · rw [e] at hk; cases hk
    · rw [e] at hk; have := Option.some.inj hk; subst this; exact ⟨rfl, e1, e2⟩
  have hgb : B ≤ gi := by
    rcases how.2 with ⟨hv, _⟩ | ⟨g', cap', cur, hv, hg', _⟩
    · cases hv
    · simp at hv; omega
  have hgi : gi ≠ p1 ∧ gi ≠ p2 := by
    rcases hat with e | e
    · exact (hogn _ e).2
    · omega
  have hk6 : ∀ b, b < w.heap.size → b ≠ p1 → ov.ownBlock ≠ some b → (w6.setCell ⟨p1, 0, none⟩ (.slice (some ⟨gi, 0, none⟩) (out.length + 1) cap)).heap[b]? = w.heap[b]? := by
    intro b hb h1 h2
    rw [Below.heap_setCell _ _ _ _ h1, hgr.block b (by omega) (fun e => h2 e.symm)]
    exact hB.block b hb
  have hbig : ∀ k, ov.ownBlock = some k → B ≤ k := by
    intro k hk
    have := hogn k hk
    obtain ⟨ov2, h1, h2, h3⟩ := hJ.own
    have e : ov2 = ov := by
      have := h1.symm.trans hb1
      simpa using this
    subst e
    exact (World.ownsRow.lt h2 k hk).1
  have hb6 : Blk w6 p1 #[ov] 38 := (hgr.block p1 (by omega) (fun e => (hogn _ e.symm).2.1 rfl)).trans ((hB.block p1 hl1).trans hb1)
  refine ⟨⟨fun b hb => ?_, by rw [size_setCell]; omega, ⟨.slice (some ⟨gi, 0, none⟩) (out.length + 1) cap, ?_, ?_, .inr ⟨rfl, hgi⟩⟩, ?_, ?_⟩, ⟨?_, ?_, ?_, by rw [size_setCell]; omega, fun b hb h1 h2 h3 => ?_, ?_⟩⟩
  · rw [hk6 b (by omega) (by omega) (fun e => by have := hbig b e; omega)]
    exact hJ.old b hb
  · have := hb6.set 0 (.slice (some ⟨gi, 0, none⟩) (out.length + 1) cap)
    simpa using this
  · refine ⟨how.1, ?_⟩
    rcases how.2 with h4 | ⟨g', cap', cur, hv, hg', hh, r⟩
    · exact .inl h4
    · refine .inr ⟨g', cap', cur, hv, hg', ?_, r⟩
      simp at hv
      rw [Below.heap_setCell _ _ _ _ (by dsimp only; omega)]
      exact hh
  · exact (hk6 p2 hl2 (fun e => hne e.symm) (fun e => (hogn _ e).2.2 rfl)).trans hJ.tape
  · intro n hn
    rcases List.mem_append.1 hn with hn | hn
    · exact hJ.in64 n hn
    · simp at hn; rw [hn]; exact hx
  · exact (show (w6.setCell _ _).os = w6.os from rfl).trans (hgr.os.trans hB.os)
  · exact (show (w6.setCell _ _).tape = w6.tape from rfl).trans (hgr.tape.trans hB.tape)
  · exact (show (w6.setCell _ _).output = w6.output from rfl).trans (hgr.output.trans hB.output)
  · exact hk6 b hb h1 (fun e => h3 (hogn b e).1)
  · rcases hat with e | e
    · exact .inl (hogn _ e).1
    · right; omega
set_option maxHeartbeats 2000000 in
theorem mend1_any (w0 : World) (B p1 p2 : Nat) (tv : Value) (tape : List Int) (h0 : w0.heap.size ≤ B) (ht : IntsAt w0 tv tape) (hp1 : B ≤ p1) (hp2 : B ≤ p2) (hne : p1 ≠ p2) (m : Int) (out : List Int) (g : Nat) (w : World) (hm0 : 0 ≤ m) (hm1 : m ≤ 1000) (hlen : out.length ≤ 1099511627776) (hJ : JMend w0 B p1 p2 tv out g w) :
    Calls Try.prog 36 #[.int .i64 m, .pointer (some ⟨p1, 0, none⟩), .pointer (some ⟨p2, 0, none⟩)] w fun e w' => e = .returned (.int .i64 (mendAt tape m out)) ∧ ∃ g', JMend w0 B p1 p2 tv (out ++ [mendAt tape m out]) g' w' ∧ Own p1 p2 g g' w w' := by
  obtain ⟨ov, hb1, how, hg⟩ := hJ.own
  have hb2 := hJ.tape
  have hti := ht.blocks hJ.old
  obtain ⟨ad, cap, rfl, hl, hmx, hin, hcells⟩ := hti.form
  obtain ⟨oad, ocap, hov, hol, hom, hoin, hocells⟩ := (how.at hJ.in64).form
  have c1 := hb1.cell 0
  have c2 := hb2.cell 0
  have u1 := hb1.unfrozen 0
  simp only [List.getElem?_toArray, List.getElem?_cons_succ, List.getElem?_cons_zero] at c1 c2
  have hbd := mendAt_bd tape m out hm0
  have hogn : ov.ownBlock ≠ some p1 := by
    rcases hg with ⟨e, _⟩ | ⟨e, e1, _⟩
    · rw [e]; simp
    · rw [e]; simpa using e1
  by_cases hlt : out.length < tape.length
  · have hx : mendAt tape m out = max 0 (min tape[out.length] m) := by simp [mendAt, hlt]
    obtain ⟨bl, off, rfl, hbl, hc⟩ := hcells (by omega)
    have hcx := hc out.length hlt
    rw [List.getD_eq_getElem?_getD, List.getElem?_eq_getElem hlt] at hcx
    simp only [Option.getD_some] at hcx
    have hti2 := hin tape[out.length] (List.getElem_mem hlt)
    generalize htx : tape[out.length] = tx at *
    have hX := Lib.hid hx
    clear hx hc hcells hocells htx
    subst hov
    generalize mendAt tape m out = x at *
    have p1' : (out.length : Int) < (tape.length : Int) := by omega
    have hc4 : (m < tx ∧ 0 < m ∧ x = m) ∨ (m < tx ∧ m = 0 ∧ x = 0) ∨ (¬ m < tx ∧ 0 < tx ∧ x = tx) ∨ (¬ m < tx ∧ ¬ 0 < tx ∧ x = 0) := by
      have := hX.out
      omega
    rcases hc4 with ⟨k1, k2, k3⟩ | ⟨k1, k2, k3⟩ | ⟨k1, k2, k3⟩ | ⟨k1, k2, k3⟩
    all_goals
      subst k3
      try subst k2
      clear hX
      go_enter Try.func36, Try.ntmps36
      go_wp2_with (at_builtin; refine append_int1 (o := ⟨some 22, _, _, _, _, _⟩) rfl _ _ rfl rfl (how.kept (by repeat (first | with_reducible assumption | with_reducible exact Below.refl _ _ | with_reducible apply Below.drew | (with_reducible refine Below.alloc ?_ (by first | omega | (simp only [zA, zS, zD, zN]; omega) | (dsimp only; omega) | (simp only [zA, zS, zD, zN]; dsimp only; omega)) _) | (with_reducible refine Below.setCell ?_ (by first | omega | (simp only [zA, zS, zD, zN]; omega) | (dsimp only; omega) | (simp only [zA, zS, zD, zN]; dsimp only; omega)) _) | (with_reducible apply below_drewN)))) rfl (Blk.new _ _ _) (by omega) (by have := hJ.size; simp; omega) ?_; intro gi capi w6 h1 h2 h3 h4; have b6 := (h2.block p1 (by have := hb1.lt; simp; omega) (fun e => hogn e.symm)).trans (hb1.alloc _); have c6 := Blk.cell b6 0; have u6 := Blk.unfrozen b6 0; simp only [List.getElem?_toArray, List.getElem?_cons_succ, List.getElem?_cons_zero] at c6)
      go_ret
      exact ⟨rfl, gi, hJ.next h0 hp1 hp2 hne hb1 hg (by repeat (first | with_reducible assumption | with_reducible exact Below.refl _ _ | with_reducible apply Below.drew | (with_reducible refine Below.alloc ?_ (by first | omega | (simp only [zA, zS, zD, zN]; omega) | (dsimp only; omega) | (simp only [zA, zS, zD, zN]; dsimp only; omega)) _) | (with_reducible refine Below.setCell ?_ (by first | omega | (simp only [zA, zS, zD, zN]; omega) | (dsimp only; omega) | (simp only [zA, zS, zD, zN]; dsimp only; omega)) _) | (with_reducible apply below_drewN))) ⟨by omega, by omega⟩ h1 h2 h3⟩
  · have hx : mendAt tape m out = 0 := by simp [mendAt, hlt]
    clear hcells hocells
    subst hov
    generalize mendAt tape m out = x at *
    subst hx
    have p1' : ¬ (out.length : Int) < (tape.length : Int) := by omega
    go_enter Try.func36, Try.ntmps36
    go_wp2_with (at_builtin; refine append_int1 (o := ⟨some 22, _, _, _, _, _⟩) rfl _ _ rfl rfl (how.kept (by repeat (first | with_reducible assumption | with_reducible exact Below.refl _ _ | with_reducible apply Below.drew | (with_reducible refine Below.alloc ?_ (by first | omega | (simp only [zA, zS, zD, zN]; omega) | (dsimp only; omega) | (simp only [zA, zS, zD, zN]; dsimp only; omega)) _) | (with_reducible refine Below.setCell ?_ (by first | omega | (simp only [zA, zS, zD, zN]; omega) | (dsimp only; omega) | (simp only [zA, zS, zD, zN]; dsimp only; omega)) _) | (with_reducible apply below_drewN)))) rfl (Blk.new _ _ _) (by omega) (by have := hJ.size; simp; omega) ?_; intro gi capi w6 h1 h2 h3 h4; have b6 := (h2.block p1 (by have := hb1.lt; simp; omega) (fun e => hogn e.symm)).trans (hb1.alloc _); have c6 := Blk.cell b6 0; have u6 := Blk.unfrozen b6 0; simp only [List.getElem?_toArray, List.getElem?_cons_succ, List.getElem?_cons_zero] at c6)
    go_ret
    exact ⟨rfl, gi, hJ.next h0 hp1 hp2 hne hb1 hg (by repeat (first | with_reducible assumption | with_reducible exact Below.refl _ _ | with_reducible apply Below.drew | (with_reducible refine Below.alloc ?_ (by first | omega | (simp only [zA, zS, zD, zN]; omega) | (dsimp only; omega) | (simp only [zA, zS, zD, zN]; dsimp only; omega)) _) | (with_reducible refine Below.setCell ?_ (by first | omega | (simp only [zA, zS, zD, zN]; omega) | (dsimp only; omega) | (simp only [zA, zS, zD, zN]; dsimp only; omega)) _) | (with_reducible apply below_drewN))) ⟨by omega, by omega⟩ h1 h2 h3⟩
end Go.Proofs.Ytocngjpjheockaa
namespace Go.Proofs.Ytocngjpjheockaa
set_option maxRecDepth 100000
open Go.RowKit
set_option linter.unusedSimpArgs false
set_option linter.unusedVariables false
namespace GT
theorem play_total {σ : Type} (st : Int → σ → Except Int (Int × σ)) (ht : ∀ m q, 0 ≤ m → ∃ c q', st m q = .ok (c, q')) (hbd : ∀ m q c q', 0 ≤ m → st m q = .ok (c, q') → 0 ≤ c ∧ c ≤ m) (g : GT) : eachErr g = 0 → ∀ q, ∃ t q', play st g q = .ok (t, q') := by
  induction g using GT.ind with
  | h k a b s ih =>
    intro he q
    have hk := ok_kids he
    have hI : ∀ x ∈ s, ∀ q, ∃ t q', play st x q = .ok (t, q') := fun x hx => ih x hx (hk x hx)
    rcases one_cases (ok_one he) with ⟨rfl, h1, h2, h3⟩ | ⟨rfl, h0, h0', h1, h2, h3⟩ | rfl | ⟨rfl, h1, h2, h3⟩ | ⟨rfl, h1⟩
    · exact ⟨_, _, by simp [play]; exact ⟨rfl, rfl⟩⟩
    · obtain ⟨c, q', h⟩ := ht (b - a) q (by omega)
      exact ⟨_, _, by simp [play, h]; exact ⟨rfl, rfl⟩⟩
    · have hL : ∀ (l : List GT), (∀ x ∈ l, x ∈ s) → ∀ q, ∃ r q', playL st l q = .ok (r, q') := by
        intro l
        induction l with
        | nil => intro _ q; exact ⟨_, _, rfl⟩
        | cons x l ihl =>
          intro hx q
          obtain ⟨t, q1, h1⟩ := hI x (hx x (by simp)) q
          obtain ⟨r, q2, h2⟩ := ihl (fun y hy => hx y (by simp [hy])) q1
          exact ⟨_, _, by simp only [playL, h1, h2]; rfl⟩
      obtain ⟨r, q', h⟩ := hL s (fun x hx => hx) q
      exact ⟨_, _, by simp [play, h]; exact ⟨rfl, rfl⟩⟩
    · obtain ⟨c, q1, h⟩ := ht a q h2
      match s, h1, hI with
      | [y], _, hI =>
        have hT : ∀ n q, ∃ r q', times (fun q => play st y q) n q = .ok (r, q') := by
          intro n
          induction n with
          | zero => intro q; exact ⟨_, _, rfl⟩
          | succ n ihn =>
            intro q
            obtain ⟨t, q1, h1⟩ := hI y (by simp) q
            obtain ⟨r, q2, h2⟩ := ihn q1
            exact ⟨_, _, by simp only [times, h1, h2]; rfl⟩
        obtain ⟨r, q2, h5⟩ := hT c.toNat q1
        exact ⟨_, _, by simp [play, playN, h, h5]; exact ⟨rfl, rfl⟩⟩
    · obtain ⟨c, q1, h⟩ := ht ((s.length : Int) - 1) q (by omega)
      have hc := hbd _ _ _ _ (by omega) h
      have hi : c.toNat < s.length := by omega
      obtain ⟨t, q2, h2⟩ := hI s[c.toNat] (List.getElem_mem hi) q1
      refine ⟨t, q2, ?_⟩
      simp [play, h]
      rw [playI_get st s c.toNat hi, h2]
end GT
/-- The tape that is mended. -/
def mendR (g : GT) (tape : List Int) : List Int := match GT.play (stMend tape) g [] with
  | .ok (_, out) => out
  | .error _ => []
theorem enter_mend1 (args : Array Value) (w : World) : Sem.run Try.prog (callFunc 36 args) w = .ok (.enter 36 args) w := by
  rfl
theorem cho_mend (w0 : World) (B p1 p2 : Nat) (tv : Value) (tape : List Int) (h0 : w0.heap.size ≤ B) (ht : IntsAt w0 tv tape) (hp1 : B ≤ p1) (hp2 : B ≤ p2) (hne : p1 ≠ p2) :
    Cho B 36 p1 p2 (stMend tape) (fun out g W => JMend w0 B p1 p2 tv out g W) (fun out => 1099511627776 - out.length) where
  enter := enter_mend1
  bd := fun m q c q' hm h => by
    simp only [stMend, Except.ok.injEq, Prod.mk.injEq] at h
    rw [← h.1]
    exact mendAt_bd tape m q hm
  bdd := fun m q c q' hm h => by
    simp only [stMend, Except.ok.injEq, Prod.mk.injEq] at h
    rw [← h.2]
    simp
    omega
  stay := fun q g w w' h hz hk => h.stay h0 hz hk
  lt := fun q g w h => by
    obtain ⟨ov, h1, h2, h3⟩ := h.own
    refine ⟨hp1, h1.lt, hp2, h.tape.lt, ?_⟩
    rcases h3 with ⟨_, e⟩ | ⟨e, _, _⟩
    · rw [e]; exact ⟨hp1, h1.lt⟩
    · exact World.ownsRow.lt h2 g e
  call := fun m q g w hm0 hm1 hb hJ => by
    refine (mend1_any w0 B p1 p2 tv tape h0 ht hp1 hp2 hne m q g w hm0 hm1 (by omega) hJ).mono ?_
    rintro e w' ⟨rfl, g', h⟩
    exact ⟨rfl, g', h⟩
set_option maxHeartbeats 2000000 in
theorem mend_bad (g : GT) (gv tv : Value) (hc : GT.check g ≠ 0) (w : World) (hg : GenAt w gv g) (htv : ∃ a n c, tv = .slice a n c) :
    Calls Try.prog 22 #[gv, tv] w fun e w' => e = .returned (.tuple #[.slice none 0 0, errV (GT.check g)]) ∧ Below w.heap.size w w' := by
  obtain ⟨k, a, b, s, ad, cap, hmk, rfl, hk, ha, hb, hl, hm, hs⟩ := hg.form
  obtain ⟨tad, tn, tcap, rfl⟩ := htv
  have C1 := Lib.hid (fun W (h : Below w.heap.size w W) => check_any g (.agg #[.int .i64 k, .int .i64 a, .int .i64 b, .slice ad s.length cap]) W (hg.ext h))
  rw [errV_ne hc] at *
  clear hc hg hmk hk ha hb hl hm hs
  go_enter Try.func22, Try.ntmps22
  go_wp2_with fail
  refine (C1.out _ (by repeat (first | with_reducible assumption | with_reducible exact Below.refl _ _ | with_reducible apply Below.drew | (with_reducible refine Below.alloc ?_ (by first | omega | (simp only [zA, zS, zD, zN]; omega) | (dsimp only; omega) | (simp only [zA, zS, zD, zN]; dsimp only; omega)) _) | (with_reducible refine Below.setCell ?_ (by first | omega | (simp only [zA, zS, zD, zN]; omega) | (dsimp only; omega) | (simp only [zA, zS, zD, zN]; dsimp only; omega)) _) | (with_reducible apply below_drewN)))).mono ?_
  rintro e w1 ⟨rfl, hb1⟩
  have hB1 : Below w.heap.size w w1 := Below.trans (by repeat (first | with_reducible assumption | with_reducible exact Below.refl _ _ | with_reducible apply Below.drew | (with_reducible refine Below.alloc ?_ (by first | omega | (simp only [zA, zS, zD, zN]; omega) | (dsimp only; omega) | (simp only [zA, zS, zD, zN]; dsimp only; omega)) _) | (with_reducible refine Below.setCell ?_ (by first | omega | (simp only [zA, zS, zD, zN]; omega) | (dsimp only; omega) | (simp only [zA, zS, zD, zN]; dsimp only; omega)) _) | (with_reducible apply below_drewN))) (hb1.mono (by first | omega | (simp only [zA, zS, zD, zN]; omega) | (dsimp only; omega) | (simp only [zA, zS, zD, zN]; dsimp only; omega)))
  obtain ⟨hc1, hf1, hz1⟩ := bcell hb1
  try simp only [zA, zS, zD, zN] at hz1
  clear hb1
  have y1_0 : w.heap.size < w1.heap.size := by omega
  have y1_1 : w.heap.size + 1 < w1.heap.size := by omega
  go_wp2_with fail
  go_ret2
  exact ⟨rfl, by repeat (first | with_reducible assumption | with_reducible exact Below.refl _ _ | with_reducible apply Below.drew | (with_reducible refine Below.alloc ?_ (by first | omega | (simp only [zA, zS, zD, zN]; omega) | (dsimp only; omega) | (simp only [zA, zS, zD, zN]; dsimp only; omega)) _) | (with_reducible refine Below.setCell ?_ (by first | omega | (simp only [zA, zS, zD, zN]; omega) | (dsimp only; omega) | (simp only [zA, zS, zD, zN]; dsimp only; omega)) _) | (with_reducible apply below_drewN))⟩
set_option maxHeartbeats 2000000 in
theorem mend_own (g : GT) (tape : List Int) (gv tv : Value) (hc : GT.check g = 0) (w : World) (hg : GenAt w gv g) (ht : IntsAt w tv tape) :
    Calls Try.prog 22 #[gv, tv] w fun e w' => (∃ v, e = .returned (.tuple #[v, .nilIface]) ∧ OwnInts w' w.heap.size v (mendR g tape) ∧ ∀ n ∈ mendR g tape, In64 n) ∧ Below w.heap.size w w' := by
  obtain ⟨k, a, b, s, ad, cap, hmk, rfl, hk, ha, hb, hl, hm, hs⟩ := hg.form
  obtain ⟨tad, tcap, rfl, htl, htm, hti, _⟩ := ht.form
  have C1 := Lib.hid (fun W (h : Below w.heap.size w W) => check_any g (.agg #[.int .i64 k, .int .i64 a, .int .i64 b, .slice ad s.length cap]) W (hg.ext h))
  rw [hc, errV_zero] at C1
  have hE := GT.check_ok hc
  have hP := GT.check_parts hc
  have hCo := GT.cost_ok hc
  obtain ⟨t, out, hplay⟩ := GT.play_total (stMend tape) (fun m q _ => ⟨_, _, rfl⟩) (fun m q c q' hm h => by
    simp only [stMend, Except.ok.injEq, Prod.mk.injEq] at h
    rw [← h.1]
    exact mendAt_bd tape m q hm) g hE []
  have hR : mendR g tape = out := by simp [mendR, hplay]
  rw [hR]
  have HPL := Lib.hid hplay
  have C2 := Lib.hid (fun p1 W (hp1 : w.heap.size + 1 < p1) (hJ : JMend w w.heap.size p1 (w.heap.size + 1) (.slice tad tape.length tcap) [] p1 W) (hW : Below w.heap.size w W) =>
    made_any (cho_mend w w.heap.size p1 (w.heap.size + 1) (.slice tad tape.length tcap) tape (Nat.le_refl _) ht (by omega) (by omega) (by omega)) w (Nat.le_refl _) g 0 [] p1 W _ hE hP (by simp; omega) hJ hW hg)
  rw [hplay] at C2
  clear hR hplay hc hk ha hb hl hm hs hmk hg ht hE hP
  go_enter Try.func22, Try.ntmps22
  go_wp2_with fail
  refine (C1.out _ (by repeat (first | with_reducible assumption | with_reducible exact Below.refl _ _ | with_reducible apply Below.drew | (with_reducible refine Below.alloc ?_ (by first | omega | (simp only [zA, zS, zD, zN]; omega) | (dsimp only; omega) | (simp only [zA, zS, zD, zN]; dsimp only; omega)) _) | (with_reducible refine Below.setCell ?_ (by first | omega | (simp only [zA, zS, zD, zN]; omega) | (dsimp only; omega) | (simp only [zA, zS, zD, zN]; dsimp only; omega)) _) | (with_reducible apply below_drewN)))).mono ?_
  rintro e w1 ⟨rfl, hb1⟩
  have hB1 : Below w.heap.size w w1 := Below.trans (by repeat (first | with_reducible assumption | with_reducible exact Below.refl _ _ | with_reducible apply Below.drew | (with_reducible refine Below.alloc ?_ (by first | omega | (simp only [zA, zS, zD, zN]; omega) | (dsimp only; omega) | (simp only [zA, zS, zD, zN]; dsimp only; omega)) _) | (with_reducible refine Below.setCell ?_ (by first | omega | (simp only [zA, zS, zD, zN]; omega) | (dsimp only; omega) | (simp only [zA, zS, zD, zN]; dsimp only; omega)) _) | (with_reducible apply below_drewN))) (hb1.mono (by first | omega | (simp only [zA, zS, zD, zN]; omega) | (dsimp only; omega) | (simp only [zA, zS, zD, zN]; dsimp only; omega)))
  have x2 := ((Blk.new (w.alloc (.cells #[.int .i64 k, .int .i64 a, .int .i64 b, .slice ad s.length cap] 43)) #[.slice tad tape.length tcap] 38)).ext hb1
  obtain ⟨hc1, hf1, hz1⟩ := bcell hb1
  simp only [World.size_alloc] at x2 hz1
  clear hb1
  have y1_0 : w.heap.size < w1.heap.size := by omega
  go_wp2_with fail
  have hJ0 : JMend w w.heap.size w1.heap.size (w.heap.size + 1) (.slice tad tape.length tcap) [] w1.heap.size (w1.alloc (.cells #[.slice none 0 0] 38)) :=
    ⟨fun b hb => (Below.heap_alloc w1 _ b (by omega)).trans (hB1.block b hb), by simp; omega, ⟨_, Blk.new _ _ _, OwnInts.nil _ _, .inl ⟨rfl, rfl⟩⟩, x2.alloc _, by simp⟩
  refine (C2.out w1.heap.size _ (by omega) hJ0 (by repeat (first | with_reducible assumption | with_reducible exact Below.refl _ _ | with_reducible apply Below.drew | (with_reducible refine Below.alloc ?_ (by first | omega | (simp only [zA, zS, zD, zN]; omega) | (dsimp only; omega) | (simp only [zA, zS, zD, zN]; dsimp only; omega)) _) | (with_reducible refine Below.setCell ?_ (by first | omega | (simp only [zA, zS, zD, zN]; omega) | (dsimp only; omega) | (simp only [zA, zS, zD, zN]; dsimp only; omega)) _) | (with_reducible apply below_drewN)))).mono ?_
  rintro e w3 ⟨u, rfl, g', hJ3, ho, _⟩
  have hB3 : Below w.heap.size w w3 := (Below.alloc hB1 (by omega) _).trans (ho.below (by omega) (by omega) (by omega) (by simp; omega))
  obtain ⟨ov, h1, h2, h3⟩ := hJ3.own
  have h4 := h2.at hJ3.in64
  have c3 := h1.cell 0
  simp only [List.getElem?_toArray, List.getElem?_cons_succ, List.getElem?_cons_zero] at c3
  obtain ⟨oad, ocap, rfl, _⟩ := h4.form
  have H4 := Lib.hid (And.intro h2 hJ3.in64)
  clear h3 h2 h4 h1
  go_wp2_with fail
  go_ret2
  exact ⟨⟨_, rfl, H4.out⟩, hB3⟩
theorem mend_any (g : GT) (tape : List Int) (gv tv : Value) (hc : GT.check g = 0) (w : World) (hg : GenAt w gv g) (ht : IntsAt w tv tape) :
    Calls Try.prog 22 #[gv, tv] w fun e w' => (∃ v, e = .returned (.tuple #[v, .nilIface]) ∧ IntsAt w' v (mendR g tape)) ∧ Below w.heap.size w w' := by
  refine (mend_own g tape gv tv hc w hg ht).mono ?_
  rintro e w' ⟨⟨v, rfl, h1, h2⟩, hb⟩
  exact ⟨⟨_, rfl, h1.at h2⟩, hb⟩
end Go.Proofs.Ytocngjpjheockaa
namespace Go.Proofs.Ytocngjpjheockaa
set_option maxRecDepth 100000
open Go.RowKit
set_option linter.unusedSimpArgs false
set_option linter.unusedVariables false
/-! ### playing a tape -/
def stPlay (tape : List Int) (m : Int) (i : Nat) : Except Int (Int × Nat) := if h : i < tape.length then (if tape[i] < 0 ∨ m < tape[i] then .error 1 else .ok (tape[i], i + 1)) else .error 5
structure JPlay (w0 : World) (B p1 p2 : Nat) (tv : Value) (tape : List Int) (i : Nat) (g : Nat) (W : World) : Prop where
  old : ∀ b, b < w0.heap.size → W.heap[b]? = w0.heap[b]?
  size : B ≤ W.heap.size
  at' : Blk W p1 #[.int .i64 i] 3
  tp : Blk W p2 #[tv] 38
  le : i ≤ tape.length
  g : g = p1
set_option maxHeartbeats 2000000 in
theorem replay2_any (w0 : World) (B p1 p2 : Nat) (tv : Value) (tape : List Int) (h0 : w0.heap.size ≤ B) (ht : IntsAt w0 tv tape) (hp1 : B ≤ p1) (hp2 : B ≤ p2) (hne : p1 ≠ p2) (m : Int) (i g : Nat) (w : World) (hm0 : 0 ≤ m) (hm1 : m ≤ 1000) (hJ : JPlay w0 B p1 p2 tv tape i g w) :
    Calls Try.prog 39 #[.int .i64 m, .pointer (some ⟨p1, 0, none⟩), .pointer (some ⟨p2, 0, none⟩)] w fun e w' => match stPlay tape m i with
    | .ok (c, q') => e = .returned (.int .i64 c) ∧ ∃ g', JPlay w0 B p1 p2 tv tape q' g' w' ∧ Own p1 p2 g g' w w'
    | .error x => e = .panicked [{ v := .iface 36 (.int .i64 x), recovered := false }] ∧ ∃ g', Own p1 p2 g g' w w' := by
  have hb1 := hJ.at'
  have hb2 := hJ.tp
  have hti := ht.blocks hJ.old
  obtain ⟨ad, cap, rfl, hl, hmx, hin, hcells⟩ := hti.form
  have c1 := hb1.cell 0
  have c2 := hb2.cell 0
  have u1 := hb1.unfrozen 0
  have hle := hJ.le
  unfold maxLen at hmx
  simp only [List.getElem?_toArray, List.getElem?_cons_succ, List.getElem?_cons_zero] at c1 c2
  have hl1 := hb1.lt
  by_cases hlt : i < tape.length
  · obtain ⟨bl, off, rfl, hbl, hc⟩ := hcells (by omega)
    have hcx := hc i hlt
    rw [List.getD_eq_getElem?_getD, List.getElem?_eq_getElem hlt] at hcx
    simp only [Option.getD_some] at hcx
    have hti2 := hin tape[i] (List.getElem_mem hlt)
    have hS : stPlay tape m i = if tape[i] < 0 ∨ m < tape[i] then .error 1 else .ok (tape[i], i + 1) := by unfold stPlay; rw [dif_pos hlt]
    rw [hS]
    clear hS hc hcells
    generalize tape[i] = x at *
    have p1' : ((i : Int) == (tape.length : Int)) = false := by simp; omega
    have p2' : (i : Int) < (tape.length : Int) := by omega
    have p3' : (0 : Int) ≤ (i : Int) := by omega
    by_cases h1 : x < 0
    · rw [if_pos (.inl h1)]
      clear hlt
      go_enter Try.func39, Try.ntmps39
      go_wp2_with fail
      refine ⟨rfl, rfl, g, Own.refl _ _ _ _⟩
    · have p4' : ¬ x < 0 := h1
      by_cases h2 : m < x
      · rw [if_pos (.inr h2)]
        clear hlt
        go_enter Try.func39, Try.ntmps39
        go_wp2_with fail
        refine ⟨rfl, rfl, g, Own.refl _ _ _ _⟩
      · rw [if_neg (by omega)]
        have hii : i + 1 ≤ tape.length := by omega
        clear hlt
        go_enter Try.func39, Try.ntmps39
        go_wp2_with fail
        have hb3 := hb1.set 0 (.int .i64 ((i : Int) + 1))
        simp only [List.setIfInBounds_toArray, List.set_cons_zero] at hb3
        go_ret
        refine ⟨rfl, p1, ⟨fun b hb => ?_, by rw [size_setCell]; exact hJ.size, by simpa using hb3, hb2.oth p1 0 (fun e => hne e.symm) _, hii, rfl⟩, ⟨rfl, rfl, rfl, by rw [size_setCell]; exact Nat.le_refl _, fun b hb h1 h2 h3 => Below.heap_setCell _ _ _ _ h1, .inl hJ.g.symm⟩⟩
        rw [Below.heap_setCell _ _ _ _ (by dsimp only; omega)]
        exact hJ.old b hb
  · have hS : stPlay tape m i = .error 5 := by unfold stPlay; rw [dif_neg hlt]
    rw [hS]
    have p1' : ((i : Int) == (tape.length : Int)) = true := by simp; omega
    clear hcells hS hlt
    go_enter Try.func39, Try.ntmps39
    go_wp2_with fail
    refine ⟨rfl, rfl, g, Own.refl _ _ _ _⟩
theorem enter_replay2 (args : Array Value) (w : World) : Sem.run Try.prog (callFunc 39 args) w = .ok (.enter 39 args) w := by
  rfl
theorem stPlay_bd {tape : List Int} {m : Int} {q : Nat} {c : Int} {q' : Nat} (h : stPlay tape m q = .ok (c, q')) : 0 ≤ c ∧ c ≤ m := by
  unfold stPlay at h
  split at h
  · split at h
    · cases h
    · simp only [Except.ok.injEq, Prod.mk.injEq] at h
      rw [← h.1]
      omega
  · cases h
theorem cho_play (w0 : World) (B p1 p2 : Nat) (tv : Value) (tape : List Int) (h0 : w0.heap.size ≤ B) (ht : IntsAt w0 tv tape) (hp1 : B ≤ p1) (hp2 : B ≤ p2) (hne : p1 ≠ p2) :
    Cho B 39 p1 p2 (stPlay tape) (fun i g W => JPlay w0 B p1 p2 tv tape i g W) (fun _ => 1099511627776) where
  enter := enter_replay2
  bd := fun m q c q' hm h => stPlay_bd h
  bdd := fun m q c q' hm h => by omega
  stay := fun q g w w' h hz hk => by
    have hsz := h.size
    exact ⟨fun b hb => (hk b (by omega) (.inl (by omega))).trans (h.old b hb), by omega, (hk _ h.at'.lt (by simp)).trans h.at', (hk _ h.tp.lt (by simp)).trans h.tp, h.le, h.g⟩
  lt := fun q g w h => ⟨hp1, h.at'.lt, hp2, h.tp.lt, by rw [h.g]; exact hp1, by rw [h.g]; exact h.at'.lt⟩
  call := fun m q g w hm0 hm1 hb hJ => by
    refine (replay2_any w0 B p1 p2 tv tape h0 ht hp1 hp2 hne m q g w hm0 hm1 hJ).mono ?_
    intro e w' h
    cases hs : stPlay tape m q with
    | error x => rw [hs] at h; exact h
    | ok r => rw [hs] at h; obtain ⟨c, q'⟩ := r; exact h
theorem catch_idle (p q : Addr) (w : World) :
    CallsD Try.prog 38 #[.pointer (some p), .pointer (some q)] .returning w fun e u' w' => e = .returned (.tuple #[]) ∧ u' = .returning ∧ w' = w := by
  refine callsD_of_wpS Try.func38 rfl fun c₀ cs hu => ?_
  simp only [Try.ntmps38, List.size_toArray, List.length_cons, List.length_nil, Nat.reduceAdd, Nat.reduceSub, Array.replicate_succ, Array.replicate_zero, List.push_toArray, List.append_toArray, List.nil_append, List.cons_append]
  apply wpS_seq
  apply wpS_region
  simp [wpOpsS, go_sem, recoverD, hu, Exit.thenS]
  refine wpS_of_wp ?_
  go_wp2_with fail
  cases c₀
  simp_all [bodyPostS, results, Try.results38]
set_option maxHeartbeats 1000000 in
theorem catch_panicking (p q : Nat) (x : Int) (o0 o1 o2 ov : Value) (older : List PanicEntry) (w : World) (hp : Blk w p #[o0, o1, o2] 48) (hq : Blk w q #[ov] 32) (hne : p ≠ q) :
    CallsD Try.prog 38 #[.pointer (some ⟨p, 0, none⟩), .pointer (some ⟨q, 0, none⟩)] (.panicking ({ v := .iface 36 (.int .i64 x), recovered := false } :: older)) w fun e u' w' =>
      e = .returned (.tuple #[]) ∧ u' = .panicking ({ v := .iface 36 (.int .i64 x), recovered := true } :: older) ∧
      w' = (((w.setCell ⟨p, 0, none⟩ (.bool false)).setCell ⟨p, 1, none⟩ (.int .i64 0)).setCell ⟨p, 2, none⟩ (.slice none 0 0)).setCell ⟨q, 0, none⟩ (.iface 36 (.int .i64 x)) := by
  have d0 := hp.cell 0
  have d1 := hp.cell 1
  have d2 := hp.cell 2
  have u0 := hp.unfrozen 0
  have u1 := hp.unfrozen 1
  have u2 := hp.unfrozen 2
  have d3 := hq.cell 0
  have u3 := hq.unfrozen 0
  simp only [List.getElem?_toArray, List.getElem?_cons_succ, List.getElem?_cons_zero] at d0 d1 d2 d3
  refine callsD_of_wpS Try.func38 rfl fun c₀ cs hu => ?_
  simp only [Try.ntmps38, List.size_toArray, List.length_cons, List.length_nil, Nat.reduceAdd, Nat.reduceSub, Array.replicate_succ, Array.replicate_zero, List.push_toArray, List.append_toArray, List.nil_append, List.cons_append]
  apply wpS_seq
  apply wpS_region
  simp [wpOpsS, go_sem, recoverD, hu, Exit.thenS]
  refine wpS_of_wp ?_
  have hta : ∀ (n : Int) (w : World), Sem.run Try.prog (Instr.typeAssert (.iface 36 (.int .i64 n)) 20 36 true) w = .ok (.tuple #[.int .i64 n, .bool true]) w := fun n w => by rfl
  go_wp2_with fail

  cases c₀
  simp_all [bodyPostS, results, Try.results38]
end Go.Proofs.Ytocngjpjheockaa
namespace Go.Proofs.Ytocngjpjheockaa
set_option maxRecDepth 100000
open Go.RowKit
set_option linter.unusedSimpArgs false
set_option linter.unusedVariables false
namespace GT
theorem play_err {σ : Type} (st : Int → σ → Except Int (Int × σ)) (P : Int → Prop) (hst : ∀ m q e, st m q = .error e → P e) (hbd : ∀ m q c q', 0 ≤ m → st m q = .ok (c, q') → 0 ≤ c ∧ c ≤ m) (g : GT) : eachErr g = 0 → ∀ q e, play st g q = .error e → P e := by
  induction g using GT.ind with
  | h k a b s ih =>
    intro he q e h
    have hk := ok_kids he
    have hI : ∀ x ∈ s, ∀ q e, play st x q = .error e → P e := fun x hx => ih x hx (hk x hx)
    rcases one_cases (ok_one he) with ⟨rfl, h1, h2, h3⟩ | ⟨rfl, h0, h0', h1, h2, h3⟩ | rfl | ⟨rfl, h1, h2, h3⟩ | ⟨rfl, h1⟩
    · simp [play] at h
    · simp only [play, show ¬ ((2:Int) = 1) by decide, if_false, if_true] at h
      cases hq : st (b - a) q with
      | error e1 => rw [hq] at h; simp only [Except.error.injEq] at h; rw [← h]; exact hst _ _ _ hq
      | ok r => rw [hq] at h; simp at h
    · have hL : ∀ (l : List GT), (∀ x ∈ l, x ∈ s) → ∀ q e, playL st l q = .error e → P e := by
        intro l
        induction l with
        | nil => intro _ q e h; simp [playL] at h
        | cons x l ihl =>
          intro hx q e h
          simp only [playL] at h
          cases hq : play st x q with
          | error e1 => rw [hq] at h; simp only [Except.error.injEq] at h; rw [← h]; exact hI x (hx x (by simp)) q e1 hq
          | ok r =>
            obtain ⟨v, q1⟩ := r
            rw [hq] at h
            simp only at h
            cases hq1 : playL st l q1 with
            | error e1 => rw [hq1] at h; simp only [Except.error.injEq] at h; rw [← h]; exact ihl (fun y hy => hx y (by simp [hy])) q1 e1 hq1
            | ok r => rw [hq1] at h; simp at h
      simp only [play, show ¬ ((3:Int) = 1) by decide, show ¬ ((3:Int) = 2) by decide, if_false, if_true] at h
      cases hq : playL st s q with
      | error e1 => rw [hq] at h; simp only [Except.error.injEq] at h; rw [← h]; exact hL s (fun x hx => hx) q e1 hq
      | ok r => rw [hq] at h; simp at h
    · simp only [play, show ¬ ((4:Int) = 1) by decide, show ¬ ((4:Int) = 2) by decide, show ¬ ((4:Int) = 3) by decide, if_false, if_true] at h
      cases hq : st a q with
      | error e1 => rw [hq] at h; simp only [Except.error.injEq] at h; rw [← h]; exact hst _ _ _ hq
      | ok r =>
        obtain ⟨c, q1⟩ := r
        rw [hq] at h
        simp only at h
        match s, h1, hI, h with
        | [y], _, hI, h =>
          simp only [playN] at h
          have hT : ∀ n q e, times (fun q => play st y q) n q = .error e → P e := by
            intro n
            induction n with
            | zero => intro q e h; simp [times] at h
            | succ n ihn =>
              intro q e h
              simp only [times] at h
              cases hq : play st y q with
              | error e1 => rw [hq] at h; simp only [Except.error.injEq] at h; rw [← h]; exact hI y (by simp) q e1 hq
              | ok r =>
                obtain ⟨v, q1⟩ := r
                rw [hq] at h
                simp only at h
                cases hq1 : times (fun q => play st y q) n q1 with
                | error e1 => rw [hq1] at h; simp only [Except.error.injEq] at h; rw [← h]; exact ihn q1 e1 hq1
                | ok r => rw [hq1] at h; simp at h
          cases hq1 : times (fun q => play st y q) c.toNat q1 with
          | error e1 => rw [hq1] at h; simp only [Except.error.injEq] at h; rw [← h]; exact hT _ q1 e1 hq1
          | ok r => rw [hq1] at h; simp at h
    · simp only [play, show ¬ ((5:Int) = 1) by decide, show ¬ ((5:Int) = 2) by decide, show ¬ ((5:Int) = 3) by decide, show ¬ ((5:Int) = 4) by decide, if_false, if_true] at h
      cases hq : st (s.length - 1) q with
      | error e1 => rw [hq] at h; simp only [Except.error.injEq] at h; rw [← h]; exact hst _ _ _ hq
      | ok r =>
        obtain ⟨c, q1⟩ := r
        rw [hq] at h
        have hc := hbd _ _ _ _ (by omega) hq
        have hi : c.toNat < s.length := by omega
        simp only at h
        rw [playI_get st s c.toNat hi] at h
        exact hI s[c.toNat] (List.getElem_mem hi) q1 e h
end GT
def zeroV : VT := .mk false 0 []
/-- What Replay answers: a value, an error's number. -/
def playR (g : GT) (tape : List Int) : VT × Int := if GT.check g = 0 then (match GT.play (stPlay tape) g 0 with
  | .error e => (zeroV, e)
  | .ok (v, i) => if i < tape.length then (zeroV, 3) else (v, 0)) else (zeroV, GT.check g)
theorem stPlay_err {tape : List Int} {m : Int} {q : Nat} {e : Int} (h : stPlay tape m q = .error e) : e = 1 ∨ e = 5 := by
  unfold stPlay at h
  split at h
  · split at h
    · simp only [Except.error.injEq] at h; exact .inl h.symm
    · cases h
  · simp only [Except.error.injEq] at h; exact .inr h.symm
theorem set3 {w : World} {p : Nat} {o0 o1 o2 : Value} {t : TypeId} (h : Blk w p #[o0, o1, o2] t) (c0 c1 c2 : Value) : Blk (((w.setCell ⟨p, 0, none⟩ c0).setCell ⟨p, 1, none⟩ c1).setCell ⟨p, 2, none⟩ c2) p #[c0, c1, c2] t := by
  have := ((h.set 0 c0).set 1 c1).set 2 c2
  simpa only [List.setIfInBounds_toArray, List.set_cons_zero, List.set_cons_succ] using this
theorem set3_oth {w : World} {p q : Nat} {cs : Array Value} {t : TypeId} (h : Blk w q cs t) (hne : q ≠ p) (c0 c1 c2 : Value) : Blk (((w.setCell ⟨p, 0, none⟩ c0).setCell ⟨p, 1, none⟩ c1).setCell ⟨p, 2, none⟩ c2) q cs t :=
  ((h.oth p 0 hne c0).oth p 1 hne c1).oth p 2 hne c2
theorem set1 {w : World} {q : Nat} {o : Value} {t : TypeId} (h : Blk w q #[o] t) (c : Value) : Blk (w.setCell ⟨q, 0, none⟩ c) q #[c] t := by
  have := h.set 0 c
  simpa only [List.setIfInBounds_toArray, List.set_cons_zero] using this
set_option maxHeartbeats 2000000 in
theorem replay_in (g : GT) (tape : List Int) (gv tv : Value) (w : World) (hg : GenAt w gv g) (ht : IntsAt w tv tape) :
    Calls Try.prog 23 #[gv, tv] w fun e w' => (∃ v, e = .returned (.tuple #[v, errV (playR g tape).2]) ∧ ValIn (fun b => w.heap.size ≤ b) w' v (playR g tape).1) ∧ Below w.heap.size w w' := by
  obtain ⟨k, a, b, s, ad, cap, hmk, rfl, hk, ha, hb, hl, hm, hs⟩ := hg.form
  obtain ⟨tad, tcap, rfl, htl, htm, hti, _⟩ := ht.form
  unfold maxLen at htm
  have hmf : ∀ (fn : Fn) (first cap : Array Value) (w : World), (Instr.makeFunc fn first cap).run Try.prog w = .ok (.func fn first cap) w := fun _ _ _ _ => rfl
  have C1 := Lib.hid (fun W (h : Below w.heap.size w W) => check_any g (.agg #[.int .i64 k, .int .i64 a, .int .i64 b, .slice ad s.length cap]) W (hg.ext h))
  by_cases hc : GT.check g = 0
  · rw [hc, errV_zero] at C1
    have hE := GT.check_ok hc
    have hP := GT.check_parts hc
    have hCo := GT.cost_ok hc
    have hR : playR g tape = (match GT.play (stPlay tape) g 0 with
      | .error e => (zeroV, e)
      | .ok (v, i) => if i < tape.length then (zeroV, 3) else (v, 0)) := by simp only [playR, hc, if_true]
    rw [hR]
    have HER := Lib.hid (GT.play_err (stPlay tape) (fun e => e = 1 ∨ e = 5) (fun m q e h => stPlay_err h) (fun m q c q' _ h => stPlay_bd h) g hE 0)
    have C2 := Lib.hid (fun p1 W (hp1 : w.heap.size + 1 < p1) (hJ : JPlay w w.heap.size p1 (w.heap.size + 1) (.slice tad tape.length tcap) tape 0 p1 W) (hW : Below w.heap.size w W) =>
      made_any (cho_play w w.heap.size p1 (w.heap.size + 1) (.slice tad tape.length tcap) tape (Nat.le_refl _) ht (by omega) (by omega) (by omega)) w (Nat.le_refl _) g 0 0 p1 W _ hE hP (by omega) hJ hW hg)
    generalize GT.play (stPlay tape) g 0 = R at *
    clear hR hc hk ha hb hl hm hs hmk hg ht hE hP
    go_enter_defers Try.func23, Try.ntmps23
    go_wp2_with fail
    refine (C1.out _ (by repeat (first | with_reducible assumption | with_reducible exact Below.refl _ _ | with_reducible apply Below.drew | (with_reducible refine Below.alloc ?_ (by first | omega | (simp only [zA, zS, zD, zN]; omega) | (dsimp only; omega) | (simp only [zA, zS, zD, zN]; dsimp only; omega)) _) | (with_reducible refine Below.setCell ?_ (by first | omega | (simp only [zA, zS, zD, zN]; omega) | (dsimp only; omega) | (simp only [zA, zS, zD, zN]; dsimp only; omega)) _) | (with_reducible apply below_drewN)))).mono ?_
    rintro e w1 ⟨rfl, hb1⟩
    have hB1 : Below w.heap.size w w1 := Below.trans (by repeat (first | with_reducible assumption | with_reducible exact Below.refl _ _ | with_reducible apply Below.drew | (with_reducible refine Below.alloc ?_ (by first | omega | (simp only [zA, zS, zD, zN]; omega) | (dsimp only; omega) | (simp only [zA, zS, zD, zN]; dsimp only; omega)) _) | (with_reducible refine Below.setCell ?_ (by first | omega | (simp only [zA, zS, zD, zN]; omega) | (dsimp only; omega) | (simp only [zA, zS, zD, zN]; dsimp only; omega)) _) | (with_reducible apply below_drewN))) (hb1.mono (by first | omega | (simp only [zA, zS, zD, zN]; omega) | (dsimp only; omega) | (simp only [zA, zS, zD, zN]; dsimp only; omega)))
    have x2 := (((Blk.new (w.alloc (.cells #[.int .i64 k, .int .i64 a, .int .i64 b, .slice ad s.length cap] 43)) #[.slice tad tape.length tcap] 38).alloc (.cells #[.bool false, .int .i64 0, .slice none 0 0] 48)).alloc (.cells #[.nilIface] 32)).ext hb1
    have x4 := (((Blk.new ((w.alloc (.cells #[.int .i64 k, .int .i64 a, .int .i64 b, .slice ad s.length cap] 43)).alloc (.cells #[.slice tad tape.length tcap] 38)) #[.bool false, .int .i64 0, .slice none 0 0] 48)).alloc (.cells #[.nilIface] 32)).ext hb1
    have x5 := ((Blk.new (((w.alloc (.cells #[.int .i64 k, .int .i64 a, .int .i64 b, .slice ad s.length cap] 43)).alloc (.cells #[.slice tad tape.length tcap] 38)).alloc (.cells #[.bool false, .int .i64 0, .slice none 0 0] 48)) #[.nilIface] 32)).ext hb1
    simp only [World.size_alloc] at x2 x4 x5
    obtain ⟨hc1, hf1, hz1⟩ := bcell hb1
    simp only [World.size_alloc] at hz1
    clear hb1
    have y1 : w.heap.size < w1.heap.size := by omega
    go_wp2_with fail
    have hJ0 : JPlay w w.heap.size w1.heap.size (w.heap.size + 1) (.slice tad tape.length tcap) tape 0 w1.heap.size (w1.alloc (.cells #[.int .i64 0] 3)) :=
      ⟨fun b hb => (Below.heap_alloc w1 _ b (by omega)).trans (hB1.block b hb), by simp; omega, Blk.new _ _ _, x2.alloc _, by omega, rfl⟩
    refine (C2.out w1.heap.size _ (by omega) hJ0 (by repeat (first | with_reducible assumption | with_reducible exact Below.refl _ _ | with_reducible apply Below.drew | (with_reducible refine Below.alloc ?_ (by first | omega | (simp only [zA, zS, zD, zN]; omega) | (dsimp only; omega) | (simp only [zA, zS, zD, zN]; dsimp only; omega)) _) | (with_reducible refine Below.setCell ?_ (by first | omega | (simp only [zA, zS, zD, zN]; omega) | (dsimp only; omega) | (simp only [zA, zS, zD, zN]; dsimp only; omega)) _) | (with_reducible apply below_drewN)))).mono ?_
    clear C1 C2
    intro e w3 hmd
    have x4 := x4.alloc (.cells #[.int .i64 0] 3)
    have x5 := x5.alloc (.cells #[.int .i64 0] 3)
    have hB2 : Below w.heap.size w (w1.alloc (.cells #[.int .i64 0] 3)) := by repeat (first | with_reducible assumption | with_reducible exact Below.refl _ _ | with_reducible apply Below.drew | (with_reducible refine Below.alloc ?_ (by first | omega | (simp only [zA, zS, zD, zN]; omega) | (dsimp only; omega) | (simp only [zA, zS, zD, zN]; dsimp only; omega)) _) | (with_reducible refine Below.setCell ?_ (by first | omega | (simp only [zA, zS, zD, zN]; omega) | (dsimp only; omega) | (simp only [zA, zS, zD, zN]; dsimp only; omega)) _) | (with_reducible apply below_drewN))
    have hz2 : (w1.alloc (.cells #[.int .i64 0] 3)).heap.size = w1.heap.size + 1 := by simp
    have HO : ∀ g', Own w1.heap.size (w.heap.size + 1) w1.heap.size g' (w1.alloc (.cells #[.int .i64 0] 3)) w3 →
        Below w.heap.size w w3 ∧ Blk w3 (w.heap.size + 1 + 1) #[.bool false, .int .i64 0, .slice none 0 0] 48 ∧ Blk w3 (w.heap.size + 1 + 1 + 1) #[.nilIface] 32 := fun g' ho =>
      ⟨hB2.trans (ho.below (by omega) (by omega) (by omega) (by omega)), (ho.blk _ (by omega) (by omega) (by omega) (by omega)).trans x4, (ho.blk _ (by omega) (by omega) (by omega) (by omega)).trans x5⟩
    clear hJ0 hc1 hf1 x2 x4 x5
    generalize hW2 : w1.alloc (.cells #[.int .i64 0] 3) = W2 at *
    cases R with
    | error x =>
      obtain ⟨rfl, g', ho⟩ := hmd
      obtain ⟨hB3, y4, y5⟩ := HO g' ho
      have hx : x ≠ 0 := by have := HER.out x rfl; omega
      refine leaves_cons (f := 38) (args := #[.pointer (some ⟨w.heap.size + 1 + 1, 0, none⟩), .pointer (some ⟨w.heap.size + 1 + 1 + 1, 0, none⟩)]) (by simp) (by simp [go_sem]) ?_
      refine (catch_panicking (w.heap.size + 1 + 1) (w.heap.size + 1 + 1 + 1) x _ _ _ _ [] _ y4 y5 (by omega)).mono ?_
      rintro e u' w'' ⟨rfl, rfl, rfl⟩
      have e4 := (set3 y4 (.bool false) (.int .i64 0) (.slice none 0 0)).oth (w.heap.size + 1 + 1 + 1) 0 (by omega) (.iface 36 (.int .i64 x))
      have e5 := set1 (set3_oth y5 (p := w.heap.size + 1 + 1) (by omega) (.bool false) (.int .i64 0) (.slice none 0 0)) (.iface 36 (.int .i64 x))
      have hBf : Below w.heap.size w ((((w3.setCell ⟨w.heap.size + 1 + 1, 0, none⟩ (.bool false)).setCell ⟨w.heap.size + 1 + 1, 1, none⟩ (.int .i64 0)).setCell ⟨w.heap.size + 1 + 1, 2, none⟩ (.slice none 0 0)).setCell ⟨w.heap.size + 1 + 1 + 1, 0, none⟩ (.iface 36 (.int .i64 x))) := by repeat (first | with_reducible assumption | with_reducible exact Below.refl _ _ | with_reducible apply Below.drew | (with_reducible refine Below.alloc ?_ (by first | omega | (simp only [zA, zS, zD, zN]; omega) | (dsimp only; omega) | (simp only [zA, zS, zD, zN]; dsimp only; omega)) _) | (with_reducible refine Below.setCell ?_ (by first | omega | (simp only [zA, zS, zD, zN]; omega) | (dsimp only; omega) | (simp only [zA, zS, zD, zN]; dsimp only; omega)) _) | (with_reducible apply below_drewN))
      generalize (((w3.setCell ⟨w.heap.size + 1 + 1, 0, none⟩ (.bool false)).setCell ⟨w.heap.size + 1 + 1, 1, none⟩ (.int .i64 0)).setCell ⟨w.heap.size + 1 + 1, 2, none⟩ (.slice none 0 0)).setCell ⟨w.heap.size + 1 + 1 + 1, 0, none⟩ (.iface 36 (.int .i64 x)) = W4 at *
      have d0 := e4.cell 0
      have d1 := e4.cell 1
      have d2 := e4.cell 2
      have d3 := e5.cell 0
      simp only [List.getElem?_toArray, List.getElem?_cons_succ, List.getElem?_cons_zero] at d0 d1 d2 d3
      simp [Leaves, settle, results, Try.results23, go_sem, d0, d1, d2, d3]
      exact ⟨⟨_, ⟨rfl, (errV_ne hx).symm⟩, ValIn.leaf _ _ ⟨by omega, by omega⟩⟩, hBf⟩
    | ok r =>
      obtain ⟨t, i⟩ := r
      obtain ⟨u, rfl, g', hJ3, ho, S, hS, hv⟩ := hmd
      obtain ⟨hB3, y4, y5⟩ := HO g' ho
      obtain ⟨l5, n5, k5, ad5, cap5, rfl⟩ := hv.shape
      have hle := hJ3.le
      have z7 := hJ3.at'
      have z3 := hJ3.tp
      clear ho HO
      have hz3 := hB3.size
      have hzz := y5.lt
      have d0 := y4.cell 0
      have d1 := y4.cell 1
      have d2 := y4.cell 2
      have u0 := y4.unfrozen 0
      have u1 := y4.unfrozen 1
      have u2 := y4.unfrozen 2
      simp only [List.getElem?_toArray, List.getElem?_cons_succ, List.getElem?_cons_zero] at d0 d1 d2
      go_upto_region 7 with (fail)
      have hlw := hB1.size
      have e4 := set3 y4 (.bool l5) (.int .i64 n5) (.slice ad5 k5 cap5)
      have e5 := set3_oth y5 (p := w.heap.size + 1 + 1) (by omega) (.bool l5) (.int .i64 n5) (.slice ad5 k5 cap5)
      have e7 := set3_oth z7 (p := w.heap.size + 1 + 1) (by omega) (.bool l5) (.int .i64 n5) (.slice ad5 k5 cap5)
      have e3 := set3_oth z3 (p := w.heap.size + 1 + 1) (by omega) (.bool l5) (.int .i64 n5) (.slice ad5 k5 cap5)
      have hB4 : Below w.heap.size w (((w3.setCell ⟨w.heap.size + 1 + 1, 0, none⟩ (.bool l5)).setCell ⟨w.heap.size + 1 + 1, 1, none⟩ (.int .i64 n5)).setCell ⟨w.heap.size + 1 + 1, 2, none⟩ (.slice ad5 k5 cap5)) := by repeat (first | with_reducible assumption | with_reducible exact Below.refl _ _ | with_reducible apply Below.drew | (with_reducible refine Below.alloc ?_ (by first | omega | (simp only [zA, zS, zD, zN]; omega) | (dsimp only; omega) | (simp only [zA, zS, zD, zN]; dsimp only; omega)) _) | (with_reducible refine Below.setCell ?_ (by first | omega | (simp only [zA, zS, zD, zN]; omega) | (dsimp only; omega) | (simp only [zA, zS, zD, zN]; dsimp only; omega)) _) | (with_reducible apply below_drewN))
      have hv4 : ValIn S (((w3.setCell ⟨w.heap.size + 1 + 1, 0, none⟩ (.bool l5)).setCell ⟨w.heap.size + 1 + 1, 1, none⟩ (.int .i64 n5)).setCell ⟨w.heap.size + 1 + 1, 2, none⟩ (.slice ad5 k5 cap5)) (.agg #[.bool l5, .int .i64 n5, .slice ad5 k5 cap5]) t := by
        refine hv.keep (by simp only [size_setCell]; exact Nat.le_refl _) (fun b hb _ => ⟨hb, ?_⟩)
        have := hS b hb
        rw [Below.heap_setCell _ _ _ _ (by dsimp only; omega), Below.heap_setCell _ _ _ _ (by dsimp only; omega), Below.heap_setCell _ _ _ _ (by dsimp only; omega)]
      have hS4 : ∀ b, S b → w.heap.size + 4 ≤ b := fun b hb => by have := hS b hb; omega
      clear d0 d1 d2 u0 u1 u2 y4 y5 z7 z3 hB3 hS hv hJ3
      generalize ((w3.setCell ⟨w.heap.size + 1 + 1, 0, none⟩ (.bool l5)).setCell ⟨w.heap.size + 1 + 1, 1, none⟩ (.int .i64 n5)).setCell ⟨w.heap.size + 1 + 1, 2, none⟩ (.slice ad5 k5 cap5) = W4 at *
      have d0 := e4.cell 0
      have d1 := e4.cell 1
      have d2 := e4.cell 2
      have u0 := e4.unfrozen 0
      have u1 := e4.unfrozen 1
      have u2 := e4.unfrozen 2
      have d3 := e5.cell 0
      have u3 := e5.unfrozen 0
      have d7 := e7.cell 0
      have d8 := e3.cell 0
      simp only [List.getElem?_toArray, List.getElem?_cons_succ, List.getElem?_cons_zero] at d0 d1 d2 d3 d7 d8
      by_cases hi : i < tape.length
      · have HI := Lib.hid hi
        have p1 : (i : Int) < (tape.length : Int) := by omega
        clear hi
        go_wp2_with fail
        have g4 := (set3 e4 (.bool false) (.int .i64 0) (.slice none 0 0)).oth (w.heap.size + 1 + 1 + 1) 0 (by omega) (.iface 36 (.int .i64 3))
        have g5 := set1 (set3_oth e5 (p := w.heap.size + 1 + 1) (by omega) (.bool false) (.int .i64 0) (.slice none 0 0)) (.iface 36 (.int .i64 3))
        have hBf : Below w.heap.size w ((((W4.setCell ⟨w.heap.size + 1 + 1, 0, none⟩ (.bool false)).setCell ⟨w.heap.size + 1 + 1, 1, none⟩ (.int .i64 0)).setCell ⟨w.heap.size + 1 + 1, 2, none⟩ (.slice none 0 0)).setCell ⟨w.heap.size + 1 + 1 + 1, 0, none⟩ (.iface 36 (.int .i64 3))) := by repeat (first | with_reducible assumption | with_reducible exact Below.refl _ _ | with_reducible apply Below.drew | (with_reducible refine Below.alloc ?_ (by first | omega | (simp only [zA, zS, zD, zN]; omega) | (dsimp only; omega) | (simp only [zA, zS, zD, zN]; dsimp only; omega)) _) | (with_reducible refine Below.setCell ?_ (by first | omega | (simp only [zA, zS, zD, zN]; omega) | (dsimp only; omega) | (simp only [zA, zS, zD, zN]; dsimp only; omega)) _) | (with_reducible apply below_drewN))
        have hvf : ValIn S ((((W4.setCell ⟨w.heap.size + 1 + 1, 0, none⟩ (.bool false)).setCell ⟨w.heap.size + 1 + 1, 1, none⟩ (.int .i64 0)).setCell ⟨w.heap.size + 1 + 1, 2, none⟩ (.slice none 0 0)).setCell ⟨w.heap.size + 1 + 1 + 1, 0, none⟩ (.iface 36 (.int .i64 3))) (.agg #[.bool l5, .int .i64 n5, .slice ad5 k5 cap5]) t := by
          refine hv4.keep (by simp only [size_setCell]; exact Nat.le_refl _) (fun b hb _ => ⟨hb, ?_⟩)
          have := hS4 b hb
          rw [Below.heap_setCell _ _ _ _ (by dsimp only; omega), Below.heap_setCell _ _ _ _ (by dsimp only; omega), Below.heap_setCell _ _ _ _ (by dsimp only; omega), Below.heap_setCell _ _ _ _ (by dsimp only; omega)]
        clear d0 d1 d2 d3 u0 u1 u2 u3 d7 d8 e4 e5 e7 e3 hv4 hB4
        generalize (((W4.setCell ⟨w.heap.size + 1 + 1, 0, none⟩ (.bool false)).setCell ⟨w.heap.size + 1 + 1, 1, none⟩ (.int .i64 0)).setCell ⟨w.heap.size + 1 + 1, 2, none⟩ (.slice none 0 0)).setCell ⟨w.heap.size + 1 + 1 + 1, 0, none⟩ (.iface 36 (.int .i64 3)) = W5 at *
        have d0 := g4.cell 0
        have d1 := g4.cell 1
        have d2 := g4.cell 2
        have d3 := g5.cell 0
        simp only [List.getElem?_toArray, List.getElem?_cons_succ, List.getElem?_cons_zero] at d0 d1 d2 d3
        refine leaves_cons (f := 38) (args := #[.pointer (some ⟨w.heap.size + 1 + 1, 0, none⟩), .pointer (some ⟨w.heap.size + 1 + 1 + 1, 0, none⟩)]) (by simp) (by simp [go_sem]) ?_
        refine (catch_idle ⟨w.heap.size + 1 + 1, 0, none⟩ ⟨w.heap.size + 1 + 1 + 1, 0, none⟩ _).mono ?_
        rintro e u' w'' ⟨rfl, rfl, rfl⟩
        simp [Leaves, settle, results, Try.results23, go_sem, d0, d1, d2, d3]
        exact ⟨⟨_, ⟨rfl, rfl⟩, ValIn.leaf _ _ ⟨by omega, by omega⟩⟩, hBf⟩
      · have HI := Lib.hid hi
        have p1 : ¬ (i : Int) < (tape.length : Int) := by omega
        clear hi
        go_wp2_with fail
        have g4 := (set3 e4 (.bool l5) (.int .i64 n5) (.slice ad5 k5 cap5)).oth (w.heap.size + 1 + 1 + 1) 0 (by omega) (.nilIface)
        have g5 := set1 (set3_oth e5 (p := w.heap.size + 1 + 1) (by omega) (.bool l5) (.int .i64 n5) (.slice ad5 k5 cap5)) (.nilIface)
        have hBf : Below w.heap.size w ((((W4.setCell ⟨w.heap.size + 1 + 1, 0, none⟩ (.bool l5)).setCell ⟨w.heap.size + 1 + 1, 1, none⟩ (.int .i64 n5)).setCell ⟨w.heap.size + 1 + 1, 2, none⟩ (.slice ad5 k5 cap5)).setCell ⟨w.heap.size + 1 + 1 + 1, 0, none⟩ (.nilIface)) := by repeat (first | with_reducible assumption | with_reducible exact Below.refl _ _ | with_reducible apply Below.drew | (with_reducible refine Below.alloc ?_ (by first | omega | (simp only [zA, zS, zD, zN]; omega) | (dsimp only; omega) | (simp only [zA, zS, zD, zN]; dsimp only; omega)) _) | (with_reducible refine Below.setCell ?_ (by first | omega | (simp only [zA, zS, zD, zN]; omega) | (dsimp only; omega) | (simp only [zA, zS, zD, zN]; dsimp only; omega)) _) | (with_reducible apply below_drewN))
        have hvf : ValIn S ((((W4.setCell ⟨w.heap.size + 1 + 1, 0, none⟩ (.bool l5)).setCell ⟨w.heap.size + 1 + 1, 1, none⟩ (.int .i64 n5)).setCell ⟨w.heap.size + 1 + 1, 2, none⟩ (.slice ad5 k5 cap5)).setCell ⟨w.heap.size + 1 + 1 + 1, 0, none⟩ (.nilIface)) (.agg #[.bool l5, .int .i64 n5, .slice ad5 k5 cap5]) t := by
          refine hv4.keep (by simp only [size_setCell]; exact Nat.le_refl _) (fun b hb _ => ⟨hb, ?_⟩)
          have := hS4 b hb
          rw [Below.heap_setCell _ _ _ _ (by dsimp only; omega), Below.heap_setCell _ _ _ _ (by dsimp only; omega), Below.heap_setCell _ _ _ _ (by dsimp only; omega), Below.heap_setCell _ _ _ _ (by dsimp only; omega)]
        clear d0 d1 d2 d3 u0 u1 u2 u3 d7 d8 e4 e5 e7 e3 hv4 hB4
        generalize (((W4.setCell ⟨w.heap.size + 1 + 1, 0, none⟩ (.bool l5)).setCell ⟨w.heap.size + 1 + 1, 1, none⟩ (.int .i64 n5)).setCell ⟨w.heap.size + 1 + 1, 2, none⟩ (.slice ad5 k5 cap5)).setCell ⟨w.heap.size + 1 + 1 + 1, 0, none⟩ (.nilIface) = W5 at *
        have d0 := g4.cell 0
        have d1 := g4.cell 1
        have d2 := g4.cell 2
        have d3 := g5.cell 0
        simp only [List.getElem?_toArray, List.getElem?_cons_succ, List.getElem?_cons_zero] at d0 d1 d2 d3
        refine leaves_cons (f := 38) (args := #[.pointer (some ⟨w.heap.size + 1 + 1, 0, none⟩), .pointer (some ⟨w.heap.size + 1 + 1 + 1, 0, none⟩)]) (by simp) (by simp [go_sem]) ?_
        refine (catch_idle ⟨w.heap.size + 1 + 1, 0, none⟩ ⟨w.heap.size + 1 + 1 + 1, 0, none⟩ _).mono ?_
        rintro e u' w'' ⟨rfl, rfl, rfl⟩
        simp [Leaves, settle, results, Try.results23, go_sem, d0, d1, d2, d3]
        exact ⟨⟨_, ⟨rfl, rfl⟩, hvf.keep (Nat.le_refl _) (fun b hs _ => ⟨by have := hS4 b hs; omega, rfl⟩)⟩, hBf⟩
  · have hR : playR g tape = (zeroV, GT.check g) := by simp [playR, hc]
    rw [hR]
    have he := Lib.hid (errV_ne hc)
    dsimp only
    rw [he.out] at C1 ⊢
    clear hR hg hmk hk ha hb hl hm hs ht
    generalize GT.check g = ce at *
    go_enter_defers Try.func23, Try.ntmps23
    go_wp2_with fail
    refine (C1.out _ (by repeat (first | with_reducible assumption | with_reducible exact Below.refl _ _ | with_reducible apply Below.drew | (with_reducible refine Below.alloc ?_ (by first | omega | (simp only [zA, zS, zD, zN]; omega) | (dsimp only; omega) | (simp only [zA, zS, zD, zN]; dsimp only; omega)) _) | (with_reducible refine Below.setCell ?_ (by first | omega | (simp only [zA, zS, zD, zN]; omega) | (dsimp only; omega) | (simp only [zA, zS, zD, zN]; dsimp only; omega)) _) | (with_reducible apply below_drewN)))).mono ?_
    rintro e w1 ⟨rfl, hb1⟩
    have hB1 : Below w.heap.size w w1 := Below.trans (by repeat (first | with_reducible assumption | with_reducible exact Below.refl _ _ | with_reducible apply Below.drew | (with_reducible refine Below.alloc ?_ (by first | omega | (simp only [zA, zS, zD, zN]; omega) | (dsimp only; omega) | (simp only [zA, zS, zD, zN]; dsimp only; omega)) _) | (with_reducible refine Below.setCell ?_ (by first | omega | (simp only [zA, zS, zD, zN]; omega) | (dsimp only; omega) | (simp only [zA, zS, zD, zN]; dsimp only; omega)) _) | (with_reducible apply below_drewN))) (hb1.mono (by first | omega | (simp only [zA, zS, zD, zN]; omega) | (dsimp only; omega) | (simp only [zA, zS, zD, zN]; dsimp only; omega)))
    have x4 := (((Blk.new ((w.alloc (.cells #[.int .i64 k, .int .i64 a, .int .i64 b, .slice ad s.length cap] 43)).alloc (.cells #[.slice tad tape.length tcap] 38)) #[.bool false, .int .i64 0, .slice none 0 0] 48)).alloc (.cells #[.nilIface] 32)).ext hb1
    have x5 := ((Blk.new (((w.alloc (.cells #[.int .i64 k, .int .i64 a, .int .i64 b, .slice ad s.length cap] 43)).alloc (.cells #[.slice tad tape.length tcap] 38)).alloc (.cells #[.bool false, .int .i64 0, .slice none 0 0] 48)) #[.nilIface] 32)).ext hb1
    simp only [World.size_alloc] at x4 x5
    have d0 := x4.cell 0
    have d1 := x4.cell 1
    have d2 := x4.cell 2
    have u0 := x4.unfrozen 0
    have u1 := x4.unfrozen 1
    have u2 := x4.unfrozen 2
    have d3 := x5.cell 0
    have u3 := x5.unfrozen 0
    obtain ⟨hc1, hf1, hz1⟩ := bcell hb1
    simp only [World.size_alloc] at hz1
    simp only [List.getElem?_toArray, List.getElem?_cons_succ, List.getElem?_cons_zero] at d0 d1 d2 d3
    clear hb1
    go_wp2_with fail
    have y4 := (((x4.set 0 (.bool false)).set 1 (.int .i64 0)).set 2 (.slice none 0 0)).oth (w.heap.size + 1 + 1 + 1) 0 (by omega) (.iface 36 (.int .i64 ce))
    have y5 := (((x5.oth (w.heap.size + 1 + 1) 0 (by omega) (.bool false)).oth (w.heap.size + 1 + 1) 1 (by omega) (.int .i64 0)).oth (w.heap.size + 1 + 1) 2 (by omega) (.slice none 0 0)).set 0 (.iface 36 (.int .i64 ce))
    simp only [List.setIfInBounds_toArray, List.set_cons_zero, List.set_cons_succ] at y4 y5
    have hBf : Below w.heap.size w ((((w1.setCell ⟨w.heap.size + 1 + 1, 0, none⟩ (.bool false)).setCell ⟨w.heap.size + 1 + 1, 1, none⟩ (.int .i64 0)).setCell ⟨w.heap.size + 1 + 1, 2, none⟩ (.slice none 0 0)).setCell ⟨w.heap.size + 1 + 1 + 1, 0, none⟩ (.iface 36 (.int .i64 ce))) := by repeat (first | with_reducible assumption | with_reducible exact Below.refl _ _ | with_reducible apply Below.drew | (with_reducible refine Below.alloc ?_ (by first | omega | (simp only [zA, zS, zD, zN]; omega) | (dsimp only; omega) | (simp only [zA, zS, zD, zN]; dsimp only; omega)) _) | (with_reducible refine Below.setCell ?_ (by first | omega | (simp only [zA, zS, zD, zN]; omega) | (dsimp only; omega) | (simp only [zA, zS, zD, zN]; dsimp only; omega)) _) | (with_reducible apply below_drewN))
    clear d0 d1 d2 d3 u0 u1 u2 u3 x4 x5 hB1
    generalize (((w1.setCell ⟨w.heap.size + 1 + 1, 0, none⟩ (.bool false)).setCell ⟨w.heap.size + 1 + 1, 1, none⟩ (.int .i64 0)).setCell ⟨w.heap.size + 1 + 1, 2, none⟩ (.slice none 0 0)).setCell ⟨w.heap.size + 1 + 1 + 1, 0, none⟩ (.iface 36 (.int .i64 ce)) = W4 at *
    have d0 := y4.cell 0
    have d1 := y4.cell 1
    have d2 := y4.cell 2
    have d3 := y5.cell 0
    simp only [List.getElem?_toArray, List.getElem?_cons_succ, List.getElem?_cons_zero] at d0 d1 d2 d3
    simp [bodyPostD, Leaves, settle, results, Try.results23, go_sem, d0, d1, d2, d3]
    exact ⟨ValIn.leaf _ _ ⟨by omega, by omega⟩, hBf⟩
theorem replay_any (g : GT) (tape : List Int) (gv tv : Value) (w : World) (hg : GenAt w gv g) (ht : IntsAt w tv tape) :
    Calls Try.prog 23 #[gv, tv] w fun e w' => (∃ v, e = .returned (.tuple #[v, errV (playR g tape).2]) ∧ ValAt w' v (playR g tape).1) ∧ Below w.heap.size w w' :=
  (replay_in g tape gv tv w hg ht).mono fun e w' ⟨⟨v, h1, h2⟩, h3⟩ => ⟨⟨v, h1, h2.at⟩, h3⟩
end Go.Proofs.Ytocngjpjheockaa
