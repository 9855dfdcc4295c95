/- Plain laws of playing: what was asked and what was taken, one after the other; a machine that follows. The choices that are asked for. No program in sight. -/
import Derived.Test.YtibmnifenfingaaGreatDoorPPlay
namespace Go.Proofs.YtibmnifenfingaaGreatDoor
set_option maxRecDepth 100000
set_option linter.unusedSimpArgs false
set_option linter.unusedVariables false
/-- The steps of a machine by a trace: the most that is asked, the choice that is taken. -/
def stepsT {σ : Type} (st : Int → σ → Except Int (Int × σ)) : List (Int × Int) → σ → σ → Prop
  | [], q, q' => q = q'
  | mc :: tr, q, q' => ∃ q1, st mc.1 q = .ok (mc.2, q1) ∧ stepsT st tr q1 q'
/-- It goes along a trace, and stops at one of its places. -/
def stopsT {σ : Type} (st : Int → σ → Except Int (Int × σ)) : List (Int × Int) → σ → Int → Prop
  | [], _, _ => False
  | mc :: tr, q, e => st mc.1 q = .error e ∨ ∃ q1, st mc.1 q = .ok (mc.2, q1) ∧ stopsT st tr q1 e
theorem stepsT_append {σ : Type} (st : Int → σ → Except Int (Int × σ)) (a b : List (Int × Int)) : ∀ q q', stepsT st (a ++ b) q q' ↔ ∃ q1, stepsT st a q q1 ∧ stepsT st b q1 q' := by
  induction a with
  | nil => intro q q'; simp [stepsT]
  | cons mc a ih =>
    intro q q'
    simp only [List.cons_append, stepsT, ih]
    constructor
    · rintro ⟨q1, h, q2, h2, h3⟩; exact ⟨q2, ⟨q1, h, h2⟩, h3⟩
    · rintro ⟨q2, ⟨q1, h, h2⟩, h3⟩; exact ⟨q1, h, q2, h2, h3⟩
theorem stopsT_append {σ : Type} (st : Int → σ → Except Int (Int × σ)) (a b : List (Int × Int)) : ∀ q e, stopsT st (a ++ b) q e ↔ stopsT st a q e ∨ ∃ q1, stepsT st a q q1 ∧ stopsT st b q1 e := by
  induction a with
  | nil => intro q e; simp [stepsT, stopsT]
  | cons mc a ih =>
    intro q e
    simp only [List.cons_append, stepsT, stopsT, ih]
    constructor
    · rintro (h | ⟨q1, h, h2 | ⟨q2, h2, h3⟩⟩)
      · exact .inl (.inl h)
      · exact .inl (.inr ⟨q1, h, h2⟩)
      · exact .inr ⟨q2, ⟨q1, h, h2⟩, h3⟩
    · rintro ((h | ⟨q1, h, h2⟩) | ⟨q2, ⟨q1, h, h2⟩, h3⟩)
      · exact .inl h
      · exact .inr ⟨q1, h, .inl h2⟩
      · exact .inr ⟨q1, h, .inr ⟨q2, h2, h3⟩⟩
namespace GT
/-- Every machine that goes along the trace plays so. -/
def Fol (g : GT) (tr : List (Int × Int)) (t : VT) : Prop := ∀ (τ : Type) (st : Int → τ → Except Int (Int × τ)) (p : τ), (∀ p', stepsT st tr p p' → play st g p = .ok (t, p')) ∧ ∀ e, stopsT st tr p e → play st g p = .error e
def FolL (s : List GT) (tr : List (Int × Int)) (ts : List VT) : Prop := ∀ (τ : Type) (st : Int → τ → Except Int (Int × τ)) (p : τ), (∀ p', stepsT st tr p p' → playL st s p = .ok (ts, p')) ∧ ∀ e, stopsT st tr p e → playL st s p = .error e
def FolN (y : GT) (n : Nat) (tr : List (Int × Int)) (ts : List VT) : Prop := ∀ (τ : Type) (st : Int → τ → Except Int (Int × τ)) (p : τ), (∀ p', stepsT st tr p p' → times (fun q => play st y q) n p = .ok (ts, p')) ∧ ∀ e, stopsT st tr p e → times (fun q => play st y q) n p = .error e
theorem FolL.nil : FolL [] [] [] := fun τ st p => ⟨fun p' h => by simp only [stepsT] at h; subst h; rfl, fun e h => h.elim⟩
theorem FolL.cons {x : GT} {s : List GT} {a b : List (Int × Int)} {t : VT} {ts : List VT} (h : Fol x a t) (k : FolL s b ts) : FolL (x :: s) (a ++ b) (t :: ts) := by
  intro τ st p
  constructor
  · intro p' hp
    obtain ⟨q1, h1, h2⟩ := (stepsT_append st a b p p').1 hp
    simp only [playL]
    rw [(h τ st p).1 q1 h1]
    simp only
    rw [(k τ st q1).1 p' h2]
  · intro e he
    simp only [playL]
    rcases (stopsT_append st a b p e).1 he with h1 | ⟨q1, h1, h2⟩
    · rw [(h τ st p).2 e h1]
    · rw [(h τ st p).1 q1 h1]
      simp only
      rw [(k τ st q1).2 e h2]
theorem FolN.zero (y : GT) : FolN y 0 [] [] := fun τ st p => ⟨fun p' h => by simp only [stepsT] at h; subst h; rfl, fun e h => h.elim⟩
theorem FolN.succ {y : GT} {n : Nat} {a b : List (Int × Int)} {t : VT} {ts : List VT} (h : Fol y a t) (k : FolN y n b ts) : FolN y (n + 1) (a ++ b) (t :: ts) := by
  intro τ st p
  constructor
  · intro p' hp
    obtain ⟨q1, h1, h2⟩ := (stepsT_append st a b p p').1 hp
    simp only [times]
    rw [(h τ st p).1 q1 h1]
    simp only
    rw [(k τ st q1).1 p' h2]
  · intro e he
    simp only [times]
    rcases (stopsT_append st a b p e).1 he with h1 | ⟨q1, h1, h2⟩
    · rw [(h τ st p).2 e h1]
    · rw [(h τ st p).1 q1 h1]
      simp only
      rw [(k τ st q1).2 e h2]
theorem Fol.k1 (a b : Int) (s : List GT) : Fol (.mk 1 a b s) [] (.mk false a []) := fun τ st p => ⟨fun p' h => by simp only [stepsT] at h; subst h; simp [play], fun e h => h.elim⟩
theorem Fol.k2 (a b c : Int) (s : List GT) : Fol (.mk 2 a b s) [(b - a, c)] (.mk false (a + c) []) := by
  intro τ st p
  simp only [play, show ¬ ((2:Int) = 1) by decide, if_false, if_true, stepsT, stopsT]
  constructor
  · rintro p' ⟨q1, h, rfl⟩
    rw [h]
  · rintro e (h | ⟨q1, h, h2⟩)
    · rw [h]
    · exact h2.elim
theorem Fol.k3 {a b : Int} {s : List GT} {tr : List (Int × Int)} {ts : List VT} (h : FolL s tr ts) : Fol (.mk 3 a b s) tr (.mk true 0 ts) := by
  intro τ st p
  simp only [play, show ¬ ((3:Int) = 1) by decide, show ¬ ((3:Int) = 2) by decide, if_false, if_true]
  constructor
  · intro p' hp
    rw [(h τ st p).1 p' hp]
  · intro e he
    rw [(h τ st p).2 e he]
theorem Fol.k4 {a b c : Int} {y : GT} {s : List GT} {tr : List (Int × Int)} {ts : List VT} (h : FolN y c.toNat tr ts) : Fol (.mk 4 a b (y :: s)) ((a, c) :: tr) (.mk true 0 ts) := by
  intro τ st p
  simp only [play, playN, show ¬ ((4:Int) = 1) by decide, show ¬ ((4:Int) = 2) by decide, show ¬ ((4:Int) = 3) by decide, if_false, if_true, stepsT, stopsT]
  constructor
  · rintro p' ⟨q1, h1, h2⟩
    rw [h1]
    simp only
    rw [(h τ st q1).1 p' h2]
  · rintro e (h1 | ⟨q1, h1, h2⟩)
    · rw [h1]
    · rw [h1]
      simp only
      rw [(h τ st q1).2 e h2]
theorem Fol.k5 {a b c : Int} {s : List GT} {tr : List (Int × Int)} {t : VT} (hi : c.toNat < s.length) (h : Fol s[c.toNat] tr t) : Fol (.mk 5 a b s) (((s.length : Int) - 1, c) :: tr) t := by
  intro τ st p
  simp only [play, show ¬ ((5:Int) = 1) by decide, show ¬ ((5:Int) = 2) by decide, show ¬ ((5:Int) = 3) by decide, show ¬ ((5:Int) = 4) by decide, if_false, if_true, stepsT, stopsT]
  constructor
  · rintro p' ⟨q1, h1, h2⟩
    rw [h1]
    simp only
    rw [playI_get st s c.toNat hi]
    exact (h τ st q1).1 p' h2
  · rintro e (h1 | ⟨q1, h1, h2⟩)
    · rw [h1]
    · rw [h1]
      simp only
      rw [playI_get st s c.toNat hi]
      exact (h τ st q1).2 e h2
/-- What a machine has played has a trace. -/
theorem play_trace {σ : Type} (st : Int → σ → Except Int (Int × σ)) (hbd : ∀ m q c q', 0 ≤ m → st m q = .ok (c, q') → 0 ≤ c ∧ c ≤ m) (g : GT) : eachErr g = 0 → ∀ d, (parts g d).2 = true → ∀ q t q', play st g q = .ok (t, q') →
    ∃ tr, stepsT st tr q q' ∧ (∀ mc ∈ tr, 0 ≤ mc.2 ∧ mc.2 ≤ mc.1 ∧ mc.1 ≤ 1000) ∧ Fol g tr t := by
  induction g using GT.ind with
  | h k a b s ih =>
    intro he d hp q t q' h
    have hk := ok_kids he
    obtain ⟨hlen, hd, hpk⟩ := GT.parts_kids hp
    have hI : ∀ x ∈ s, ∀ q t q', play st x q = .ok (t, q') → ∃ tr, stepsT st tr q q' ∧ (∀ mc ∈ tr, 0 ≤ mc.2 ∧ mc.2 ≤ mc.1 ∧ mc.1 ≤ 1000) ∧ Fol x tr t := fun x hx => ih x hx (hk x hx) (d + 1) (hpk x hx)
    clear ih
    rcases one_cases (ok_one he) with ⟨rfl, h1, h2, h3⟩ | ⟨rfl, h0, h0', h1, h2, h3⟩ | rfl | ⟨rfl, h1, h2, h3⟩ | ⟨rfl, h1⟩
    · simp [play] at h
      obtain ⟨rfl, rfl⟩ := h
      exact ⟨[], rfl, by simp, Fol.k1 a b s⟩
    · simp only [play, show ¬ ((2:Int) = 1) by decide, if_false, if_true] at h
      cases hq : st (b - a) q with
      | error e => rw [hq] at h; cases h
      | ok r =>
        obtain ⟨c, q1⟩ := r
        rw [hq] at h
        simp only [Except.ok.injEq, Prod.mk.injEq] at h
        obtain ⟨rfl, rfl⟩ := h
        have hb := hbd _ _ _ _ (by omega) hq
        exact ⟨[(b - a, c)], ⟨q1, hq, rfl⟩, by simp; omega, Fol.k2 a b c s⟩
    · have hL : ∀ (l : List GT), (∀ x ∈ l, x ∈ s) → ∀ q r q', playL st l q = .ok (r, q') → ∃ tr, stepsT st tr q q' ∧ (∀ mc ∈ tr, 0 ≤ mc.2 ∧ mc.2 ≤ mc.1 ∧ mc.1 ≤ 1000) ∧ FolL l tr r := by
        intro l
        induction l with
        | nil => intro _ q r q' h; simp [playL] at h; obtain ⟨rfl, rfl⟩ := h; exact ⟨[], rfl, by simp, FolL.nil⟩
        | cons x l ihl =>
          intro hx q r q' h
          simp only [playL] at h
          cases hq : play st x q with
          | error e => rw [hq] at h; cases h
          | ok r1 =>
            obtain ⟨v, q1⟩ := r1
            rw [hq] at h
            simp only at h
            cases hq1 : playL st l q1 with
            | error e => rw [hq1] at h; cases h
            | ok r2 =>
              obtain ⟨l1, q2⟩ := r2
              rw [hq1] at h
              simp only [Except.ok.injEq, Prod.mk.injEq] at h
              obtain ⟨rfl, rfl⟩ := h
              obtain ⟨t1, s1, b1, f1⟩ := hI x (hx x (by simp)) q v q1 hq
              obtain ⟨t2, s2, b2, f2⟩ := ihl (fun y hy => hx y (by simp [hy])) q1 l1 q2 hq1
              refine ⟨t1 ++ t2, (stepsT_append st t1 t2 q q2).2 ⟨q1, s1, s2⟩, fun mc hm => ?_, FolL.cons f1 f2⟩
              rcases List.mem_append.1 hm with hm | hm
              · exact b1 mc hm
              · exact b2 mc hm
      simp only [play, show ¬ ((3:Int) = 1) by decide, show ¬ ((3:Int) = 2) by decide, if_false, if_true] at h
      cases hq : playL st s q with
      | error e => rw [hq] at h; cases h
      | ok r =>
        obtain ⟨l, q1⟩ := r
        rw [hq] at h
        simp only [Except.ok.injEq, Prod.mk.injEq] at h
        obtain ⟨rfl, rfl⟩ := h
        obtain ⟨tr, s1, b1, f1⟩ := hL s (fun x hx => hx) q l q1 hq
        exact ⟨tr, s1, b1, Fol.k3 f1⟩
    · simp only [play, show ¬ ((4:Int) = 1) by decide, show ¬ ((4:Int) = 2) by decide, show ¬ ((4:Int) = 3) by decide, if_false, if_true] at h
      cases hq : st a q with
      | error e => rw [hq] at h; cases h
      | ok r =>
        obtain ⟨c, q1⟩ := r
        rw [hq] at h
        simp only at h
        have hb := hbd _ _ _ _ (by omega) hq
        match s, h1, hI, h with
        | [y], _, hI, h =>
          have hT : ∀ n q r q', times (fun q => play st y q) n q = .ok (r, q') → ∃ tr, stepsT st tr q q' ∧ (∀ mc ∈ tr, 0 ≤ mc.2 ∧ mc.2 ≤ mc.1 ∧ mc.1 ≤ 1000) ∧ FolN y n tr r := by
            intro n
            induction n with
            | zero => intro q r q' h; simp [times] at h; obtain ⟨rfl, rfl⟩ := h; exact ⟨[], rfl, by simp, FolN.zero y⟩
            | succ n ihn =>
              intro q r q' h
              simp only [times] at h
              cases hq : play st y q with
              | error e => rw [hq] at h; cases h
              | ok r1 =>
                obtain ⟨v, q1⟩ := r1
                rw [hq] at h
                simp only at h
                cases hq1 : times (fun q => play st y q) n q1 with
                | error e => rw [hq1] at h; cases h
                | ok r2 =>
                  obtain ⟨l1, q2⟩ := r2
                  rw [hq1] at h
                  simp only [Except.ok.injEq, Prod.mk.injEq] at h
                  obtain ⟨rfl, rfl⟩ := h
                  obtain ⟨t1, s1, b1, f1⟩ := hI y (by simp) q v q1 hq
                  obtain ⟨t2, s2, b2, f2⟩ := ihn q1 l1 q2 hq1
                  refine ⟨t1 ++ t2, (stepsT_append st t1 t2 q q2).2 ⟨q1, s1, s2⟩, fun mc hm => ?_, FolN.succ f1 f2⟩
                  rcases List.mem_append.1 hm with hm | hm
                  · exact b1 mc hm
                  · exact b2 mc hm
          simp only [playN] at h
          cases hq1 : times (fun q => play st y q) c.toNat q1 with
          | error e => rw [hq1] at h; cases h
          | ok r2 =>
            obtain ⟨l1, q2⟩ := r2
            rw [hq1] at h
            simp only [Except.ok.injEq, Prod.mk.injEq] at h
            obtain ⟨rfl, rfl⟩ := h
            obtain ⟨t2, s2, b2, f2⟩ := hT c.toNat q1 l1 q2 hq1
            refine ⟨(a, c) :: t2, ⟨q1, hq, s2⟩, fun mc hm => ?_, Fol.k4 f2⟩
            rcases List.mem_cons.1 hm with rfl | hm
            · dsimp only; omega
            · exact b2 mc hm
    · simp only [play, show ¬ ((5:Int) = 1) by decide, show ¬ ((5:Int) = 2) by decide, show ¬ ((5:Int) = 3) by decide, show ¬ ((5:Int) = 4) by decide, if_false, if_true] at h
      cases hq : st (s.length - 1) q with
      | error e => rw [hq] at h; cases h
      | ok r =>
        obtain ⟨c, q1⟩ := r
        rw [hq] at h
        have hc := hbd _ _ _ _ (by omega) hq
        have hi : c.toNat < s.length := by omega
        simp only at h
        rw [playI_get st s c.toNat hi] at h
        obtain ⟨t2, s2, b2, f2⟩ := hI s[c.toNat] (List.getElem_mem hi) q1 t q' h
        refine ⟨((s.length : Int) - 1, c) :: t2, ⟨q1, hq, s2⟩, fun mc hm => ?_, Fol.k5 hi f2⟩
        rcases List.mem_cons.1 hm with rfl | hm
        · dsimp only; omega
        · exact b2 mc hm
end GT
/-! ### a machine that takes its choices from a list, and stops where the list ends with the most that is asked -/
def stList (m : Int) : List Int → Except Int (Int × List Int)
  | [] => .error m
  | x :: r => .ok (x, r)
theorem stList_steps (tr : List (Int × Int)) : ∀ r, stepsT stList tr (tr.map (·.2) ++ r) r := by
  induction tr with
  | nil => intro r; rfl
  | cons mc tr ih => intro r; exact ⟨_, rfl, ih r⟩
theorem stList_stops (tr : List (Int × Int)) : ∀ j (h : j < tr.length), stopsT stList tr ((tr.map (·.2)).take j) tr[j].1 := by
  induction tr with
  | nil => intro j h; simp at h
  | cons mc tr ih =>
    intro j h
    cases j with
    | zero => exact .inl rfl
    | succ j => exact .inr ⟨_, rfl, ih j (by simpa using h)⟩
/-- What is asked behind choices is the same on both traces. -/
theorem GT.Fol.same {g : GT} {t1 t2 : List (Int × Int)} {v1 v2 : VT} (h1 : GT.Fol g t1 v1) (h2 : GT.Fol g t2 v2) (j : Nat) (hj : j ≤ t1.length) (hj2 : j ≤ t2.length) (he : (t1.map (·.2)).take j = (t2.map (·.2)).take j) :
    (∃ (a : j < t1.length) (b : j < t2.length), t1[j].1 = t2[j].1) ∨ (j = t1.length ∧ j = t2.length) := by
  by_cases a : j < t1.length
  · have e1 := (h1 _ stList _).2 _ (stList_stops t1 j a)
    by_cases b : j < t2.length
    · have e2 := (h2 _ stList _).2 _ (stList_stops t2 j b)
      rw [he, e2] at e1
      injection e1 with e1
      exact .inl ⟨a, b, e1.symm⟩
    · have e2 := (h2 _ stList _).1 _ (stList_steps t2 [])
      rw [he, List.take_of_length_le (by simp; omega)] at e1
      rw [List.append_nil, e1] at e2
      cases e2
  · by_cases b : j < t2.length
    · have e2 := (h2 _ stList _).2 _ (stList_stops t2 j b)
      have e1 := (h1 _ stList _).1 _ (stList_steps t1 [])
      rw [← he, List.take_of_length_le (by simp; omega)] at e2
      rw [List.append_nil, e2] at e1
      cases e1
    · exact .inr ⟨by omega, by omega⟩
/-! ### the traces of mending and of drawing -/
theorem stMend_trace (l : List Int) (tr : List (Int × Int)) : ∀ q q', stepsT (stMend l) tr q q' → q' = q ++ tr.map (·.2) ∧ ∀ j (h : j < tr.length), tr[j].2 = (if h2 : q.length + j < l.length then max 0 (min l[q.length + j] tr[j].1) else 0) := by
  induction tr with
  | nil => intro q q' h; simp only [stepsT] at h; subst h; simp
  | cons mc tr ih =>
    intro q q' h
    obtain ⟨q1, h1, h2⟩ := h
    simp only [stMend, Except.ok.injEq, Prod.mk.injEq] at h1
    obtain ⟨e1, rfl⟩ := h1
    obtain ⟨e2, e3⟩ := ih _ _ h2
    refine ⟨by rw [e2, e1]; simp, fun j hj => ?_⟩
    cases j with
    | zero => simp only [List.getElem_cons_zero, Nat.add_zero]; rw [← e1]; rfl
    | succ j =>
      have := e3 j (by simpa using hj)
      simp only [List.getElem_cons_succ]
      rw [this]
      simp only [List.length_append, List.length_cons, List.length_nil, Nat.add_assoc, Nat.add_comm 1 j, Nat.zero_add]
def seedAt (sd : Nat × Nat) : Nat → Nat × Nat
  | 0 => sd
  | j + 1 => seedAt ((sd.1 + sd.2) % 18446744073709551616, sd.2) j
theorem seedAt_step (j : Nat) : ∀ sd : Nat × Nat, seedAt sd (j + 1) = (((seedAt sd j).1 + (seedAt sd j).2) % 18446744073709551616, (seedAt sd j).2) := by
  induction j with
  | zero => intro sd; rfl
  | succ j ih => intro sd; exact ih _
theorem stDraw_trace (tr : List (Int × Int)) : ∀ (sd : Nat × Nat) (out : List Int) (q' : DrawS), stepsT stDraw tr (sd, out) q' → q'.2 = out ++ tr.map (·.2) ∧ ∀ j (h : j < tr.length), tr[j].2 = ((PRng.below (seedAt sd j).1 (seedAt sd j).2 (tr[j].1 + 1).toNat : Nat) : Int) := by
  induction tr with
  | nil => intro sd out q' h; simp only [stepsT] at h; subst h; simp
  | cons mc tr ih =>
    intro sd out q' h
    obtain ⟨q1, h1, h2⟩ := h
    simp only [stDraw, Except.ok.injEq, Prod.mk.injEq] at h1
    obtain ⟨e1, rfl⟩ := h1
    obtain ⟨e2, e3⟩ := ih _ _ _ h2
    refine ⟨by rw [e2, e1]; simp, fun j hj => ?_⟩
    cases j with
    | zero => simp only [List.getElem_cons_zero]; rw [← e1]; rfl
    | succ j => exact e3 j (by simpa using hj)
/-- The most that is asked where a tape that is drawn ends, or goes on. -/
def mostR (g : GT) (P : List Int) : Int := if P.length < (mendR g (P ++ [1001])).length then (mendR g (P ++ [1001])).getD P.length 0 else -1
theorem draw_asks (g : GT) (hc : GT.check g = 0) (sd : Nat × Nat) : ∃ ms : List Int, ms.length = (drawR g sd).length ∧ (∀ m ∈ ms, 0 ≤ m ∧ m ≤ 1000) ∧
    (∀ j (h : j < ms.length), mostR g ((drawR g sd).take j) = ms[j] ∧ (drawR g sd).getD j 0 = ((PRng.below (seedAt sd j).1 (seedAt sd j).2 (ms[j] + 1).toNat : Nat) : Int)) ∧ mostR g (drawR g sd) = -1 := by
  obtain ⟨t, q, h, hD⟩ := draw_play g hc sd
  obtain ⟨tr, hs, hb, hf⟩ := GT.play_trace stDraw (fun m q c q' hm h => stDraw_bd hm h) g (GT.check_ok hc) 0 (GT.check_parts hc) _ _ _ h
  obtain ⟨e1, e2⟩ := stDraw_trace tr sd [] q hs
  have hD2 : drawR g sd = tr.map (·.2) := by rw [hD, e1]; rfl
  have hdl : (drawR g sd).length = tr.length := by rw [hD2]; simp
  refine ⟨tr.map (·.1), by simp [hdl], fun m hm => ?_, fun j hj => ?_, ?_⟩
  · obtain ⟨mc, h1, rfl⟩ := List.mem_map.1 hm
    have := hb mc h1
    omega
  · have hj' : j < tr.length := by simpa using hj
    refine ⟨?_, ?_⟩
    · obtain ⟨t2, h2⟩ := mend_play g hc ((drawR g sd).take j ++ [1001])
      obtain ⟨tr2, hs2, hb2, hf2⟩ := GT.play_trace (stMend ((drawR g sd).take j ++ [1001])) (fun m q c q' hm h => stMend_bd hm h) g (GT.check_ok hc) 0 (GT.check_parts hc) _ _ _ h2
      obtain ⟨e3, e4⟩ := stMend_trace _ tr2 _ _ hs2
      have hM : mendR g ((drawR g sd).take j ++ [1001]) = tr2.map (·.2) := by rw [e3]; rfl
      have hll : ((drawR g sd).take j).length = j := by rw [List.length_take]; omega
      have hlt2 : ((drawR g sd).take j ++ [1001]).length = j + 1 := by simp [hll]
      -- the choices agree up to j
      have agree : ∀ i, i ≤ j → i ≤ tr2.length ∧ (tr.map (·.2)).take i = (tr2.map (·.2)).take i := by
        intro i
        induction i with
        | zero => intro _; exact ⟨Nat.zero_le _, by simp⟩
        | succ i ihi =>
          intro hi
          obtain ⟨h5, h6⟩ := ihi (by omega)
          rcases hf.same hf2 i (by omega) h5 h6 with ⟨a, b, hm⟩ | ⟨h7, h8⟩
          · refine ⟨b, ?_⟩
            rw [List.take_add_one, List.take_add_one, h6]
            congr 1
            rw [List.getElem?_eq_getElem (by simpa using a), List.getElem?_eq_getElem (by simpa using b)]
            simp only [List.getElem_map, Option.toList_some, List.cons.injEq, and_true]
            have h9 := e4 i b
            simp only [List.length_nil, Nat.zero_add] at h9
            rw [dif_pos (by omega)] at h9
            have h10 : ((drawR g sd).take j ++ [1001])[i]'(by omega) = tr[i].2 := by
              rw [List.getElem_append_left (by omega), List.getElem_take]
              simp [hD2]
            rw [h10] at h9
            have := hb tr[i] (List.getElem_mem a)
            omega
          · omega
      obtain ⟨h5, h6⟩ := agree j (Nat.le_refl _)
      rcases hf.same hf2 j (by omega) h5 h6 with ⟨a, b, hm⟩ | ⟨h7, h8⟩
      · have h9 := e4 j b
        simp only [List.length_nil, Nat.zero_add] at h9
        rw [dif_pos (by omega)] at h9
        have h10 : ((drawR g sd).take j ++ [1001])[j]'(by omega) = 1001 := by
          rw [List.getElem_append_right (by omega)]
          simp [hll]
        rw [h10] at h9
        have := hb tr[j] (List.getElem_mem a)
        unfold mostR
        rw [hM, hll, if_pos (by simpa using b)]
        have h11 : (tr2.map (·.2)).getD j 0 = tr2[j].2 := by simp [List.getD_eq_getElem?_getD, b]
        rw [h11, h9]
        simp only [List.getElem_map]
        omega
      · omega
    · have := e2 j hj'
      simp only [List.getElem_map]
      rw [← this]
      simp [hD2, List.getD_eq_getElem?_getD, hj']
  · obtain ⟨t3, h3⟩ := play_drawn g hc sd
    have h4 := (played_stays g hc (drawR g sd)).1 (by rw [h3])
    have h5 := mend_more g hc (drawR g sd) [1001]
    rw [h4] at h5
    unfold mostR
    rw [h5, if_neg (by omega)]
end Go.Proofs.YtibmnifenfingaaGreatDoor
