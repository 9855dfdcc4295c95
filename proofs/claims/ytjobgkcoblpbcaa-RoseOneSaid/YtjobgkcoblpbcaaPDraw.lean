/- Plain laws of drawing. -/
import Derived.Test.YtjobgkcoblpbcaaDraw2
namespace Go.Proofs.Ytjobgkcoblpbcaa
set_option linter.unusedSimpArgs false
set_option linter.unusedVariables false
namespace GT
theorem play_inv {σ : Type} (st : Int → σ → Except Int (Int × σ)) (P : σ → Prop) (hbd : ∀ m q c q', 0 ≤ m → st m q = .ok (c, q') → 0 ≤ c ∧ c ≤ m) (hst : ∀ m q c q', 0 ≤ m → m ≤ 1000 → st m q = .ok (c, q') → P q → P q') (g : GT) : eachErr g = 0 → ∀ d, (parts g d).2 = true → ∀ q t q', play st g q = .ok (t, q') → P q → P q' := by
  induction g using GT.ind with
  | h k a b s ih =>
    intro he d hp q t q' h hq0
    have hk := ok_kids he
    obtain ⟨hlen, hd, hpk⟩ := GT.parts_kids hp
    have hI : ∀ x ∈ s, ∀ q t q', play st x q = .ok (t, q') → P q → P q' := fun x hx => ih x hx (hk x hx) (d + 1) (hpk x hx)
    rcases one_cases (ok_one he) with ⟨rfl, h1, h2, h3⟩ | ⟨rfl, h0, h0', h1, h2, h3⟩ | rfl | ⟨rfl, h1, h2, h3⟩ | ⟨rfl, h1⟩
    · simp [play] at h
      rw [← h.2]; exact hq0
    · simp only [play, show ¬ ((2:Int) = 1) by decide, if_false, if_true] at h
      cases hq : st (b - a) q with
      | error e => rw [hq] at h; cases h
      | ok r =>
        obtain ⟨c, q1⟩ := r
        rw [hq] at h
        simp only [Except.ok.injEq, Prod.mk.injEq] at h
        rw [← h.2]
        exact hst (b - a) q c q1 (by omega) (by omega) hq hq0
    · have hL : ∀ (l : List GT), (∀ x ∈ l, x ∈ s) → ∀ q r q', playL st l q = .ok (r, q') → P q → P q' := by
        intro l
        induction l with
        | nil => intro _ q r q' h h0; simp [playL] at h; rw [← h.2]; exact h0
        | cons x l ihl =>
          intro hx q r q' h h0
          simp only [playL] at h
          cases hq : play st x q with
          | error e => rw [hq] at h; cases h
          | ok r1 =>
            obtain ⟨v, q1⟩ := r1
            rw [hq] at h
            simp only at h
            cases hq1 : playL st l q1 with
            | error e => rw [hq1] at h; cases h
            | ok r2 =>
              obtain ⟨l1, q2⟩ := r2
              rw [hq1] at h
              simp only [Except.ok.injEq, Prod.mk.injEq] at h
              rw [← h.2]
              exact ihl (fun y hy => hx y (by simp [hy])) q1 l1 q2 hq1 (hI x (hx x (by simp)) q v q1 hq h0)
      simp only [play, show ¬ ((3:Int) = 1) by decide, show ¬ ((3:Int) = 2) by decide, if_false, if_true] at h
      cases hq : playL st s q with
      | error e => rw [hq] at h; cases h
      | ok r =>
        obtain ⟨l, q1⟩ := r
        rw [hq] at h
        simp only [Except.ok.injEq, Prod.mk.injEq] at h
        rw [← h.2]
        exact hL s (fun x hx => hx) q l q1 hq hq0
    · simp only [play, show ¬ ((4:Int) = 1) by decide, show ¬ ((4:Int) = 2) by decide, show ¬ ((4:Int) = 3) by decide, if_false, if_true] at h
      cases hq : st a q with
      | error e => rw [hq] at h; cases h
      | ok r =>
        obtain ⟨c, q1⟩ := r
        rw [hq] at h
        simp only at h
        match s, h1, hI, h with
        | [y], _, hI, h =>
          have hT : ∀ n q r q', times (fun q => play st y q) n q = .ok (r, q') → P q → P q' := by
            intro n
            induction n with
            | zero => intro q r q' h h0; simp [times] at h; rw [← h.2]; exact h0
            | succ n ihn =>
              intro q r q' h h0
              simp only [times] at h
              cases hq : play st y q with
              | error e => rw [hq] at h; cases h
              | ok r1 =>
                obtain ⟨v, q1⟩ := r1
                rw [hq] at h
                simp only at h
                cases hq1 : times (fun q => play st y q) n q1 with
                | error e => rw [hq1] at h; cases h
                | ok r2 =>
                  obtain ⟨l1, q2⟩ := r2
                  rw [hq1] at h
                  simp only [Except.ok.injEq, Prod.mk.injEq] at h
                  rw [← h.2]
                  exact ihn q1 l1 q2 hq1 (hI y (by simp) q v q1 hq h0)
          simp only [playN] at h
          cases hq1 : times (fun q => play st y q) c.toNat q1 with
          | error e => rw [hq1] at h; cases h
          | ok r2 =>
            obtain ⟨l1, q2⟩ := r2
            rw [hq1] at h
            simp only [Except.ok.injEq, Prod.mk.injEq] at h
            rw [← h.2]
            exact hT c.toNat q1 l1 q2 hq1 (hst a q c q1 h2 (by omega) hq hq0)
    · simp only [play, show ¬ ((5:Int) = 1) by decide, show ¬ ((5:Int) = 2) by decide, show ¬ ((5:Int) = 3) by decide, show ¬ ((5:Int) = 4) by decide, if_false, if_true] at h
      cases hq : st (s.length - 1) q with
      | error e => rw [hq] at h; cases h
      | ok r =>
        obtain ⟨c, q1⟩ := r
        rw [hq] at h
        have hc := hbd _ _ _ _ (by omega) hq
        have hi : c.toNat < s.length := by omega
        simp only at h
        rw [playI_get st s c.toNat hi] at h
        exact hI s[c.toNat] (List.getElem_mem hi) q1 t q' h (hst _ q c q1 (by omega) (by omega) hq hq0)
end GT
/-- What is drawn lies within what a tape may hold. -/
theorem draw_within (g : GT) (hc : GT.check g = 0) (sd : Nat × Nat) : ∀ n ∈ drawR g sd, 0 ≤ n ∧ n ≤ 1000 := by
  obtain ⟨t, q, hp, hR⟩ := draw_play g hc sd
  rw [hR]
  refine GT.play_inv stDraw (fun q => ∀ n ∈ q.2, 0 ≤ n ∧ n ≤ 1000) (fun m q c q' hm h => stDraw_bd hm h) (fun m q c q' hm hm2 h hq => ?_) g (GT.check_ok hc) 0 (GT.check_parts hc) (sd, []) t q hp (by simp)
  have hb := stDraw_bd hm h
  simp only [stDraw, Except.ok.injEq, Prod.mk.injEq] at h
  obtain ⟨h1, rfl⟩ := h
  intro n hn
  rcases List.mem_append.1 hn with hn | hn
  · exact hq n hn
  · simp at hn
    rw [hn, h1]
    omega
/-- What is drawn can be played. -/
theorem play_drawn (g : GT) (hc : GT.check g = 0) (sd : Nat × Nat) : ∃ t, playR g (drawR g sd) = (t, 0) := by
  obtain ⟨t, q, hp, hR⟩ := draw_play g hc sd
  have h := (GT.play_sim stDraw (stPlay q.2) (fun a b => a.2 <+: b.2) q (fun q => q.2.length) (fun q => List.prefix_refl _) (fun a b c h1 h2 => h1.trans h2) (fun m q c q' h => by
      simp only [stDraw, Except.ok.injEq, Prod.mk.injEq] at h
      rw [← h.2]
      exact List.prefix_append _ _) (fun m q c q' hm h => stDraw_bd hm h) (fun m q1 c q' hm h hF => by
      have hb := stDraw_bd hm h
      simp only [stDraw, Except.ok.injEq, Prod.mk.injEq] at h
      obtain ⟨h1, rfl⟩ := h
      simp only [h1] at hF ⊢
      obtain ⟨hi, he⟩ := prefix_get hF
      unfold stPlay
      rw [dif_pos hi, he, if_neg (by omega)]
      simp) g (GT.check_ok hc) (sd, []) t q hp).2 (List.prefix_refl _)
  simp only [List.length_nil] at h
  exact ⟨t, by rw [hR]; simp [playR, hc, h]⟩
end Go.Proofs.Ytjobgkcoblpbcaa
