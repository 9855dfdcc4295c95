/- Plain laws of torn tapes. No program in sight. -/
import Derived.Test.YtcecpggkeaohnaaDoorPMV
import Derived.Test.YtcecpggkeaohnaaDoorDRW
namespace Go.Proofs.YtcecpggkeaohnaaDoor
set_option maxRecDepth 100000
set_option linter.unusedSimpArgs false
set_option linter.unusedVariables false
namespace GT
section
variable {σ : Type} (st1 st2 : Int → σ → Except Int (Int × σ))
/-- Two that step alike, or the first one stops with 5: so do they play. -/
theorem play_par (h : ∀ m q, st1 m q = st2 m q ∨ st1 m q = .error 5) (g : GT) : ∀ q, play st1 g q = play st2 g q ∨ play st1 g q = .error 5 := by
  induction g using GT.ind with
  | h k a b s ih =>
    intro q
    have hL : ∀ (l : List GT), (∀ x ∈ l, x ∈ s) → ∀ q, playL st1 l q = playL st2 l q ∨ playL st1 l q = .error 5 := by
      intro l
      induction l with
      | nil => intro _ q; exact .inl rfl
      | cons x l ihl =>
        intro hx q
        simp only [playL]
        rcases ih x (hx x (by simp)) q with e | e
        · rw [e]
          cases play st2 x q with
          | error e => exact .inl rfl
          | ok r =>
            obtain ⟨v, q1⟩ := r
            simp only
            rcases ihl (fun y hy => hx y (by simp [hy])) q1 with e | e <;> rw [e]
            · exact .inl rfl
            · exact .inr rfl
        · rw [e]; exact .inr rfl
    have hT : ∀ x ∈ s, ∀ n q, times (fun q => play st1 x q) n q = times (fun q => play st2 x q) n q ∨ times (fun q => play st1 x q) n q = .error 5 := by
      intro x hx n
      induction n with
      | zero => intro q; exact .inl rfl
      | succ n ihn =>
        intro q
        simp only [times]
        rcases ih x hx q with e | e
        · rw [e]
          cases play st2 x q with
          | error e => exact .inl rfl
          | ok r =>
            obtain ⟨v, q1⟩ := r
            simp only
            rcases ihn q1 with e | e <;> rw [e]
            · exact .inl rfl
            · exact .inr rfl
        · rw [e]; exact .inr rfl
    have hI : ∀ (l : List GT), (∀ x ∈ l, x ∈ s) → ∀ i q, playI st1 l i q = playI st2 l i q ∨ playI st1 l i q = .error 5 := by
      intro l
      induction l with
      | nil => intro _ i q; exact .inl rfl
      | cons x l ihl =>
        intro hx i q
        cases i with
        | zero => exact ih x (hx x (by simp)) q
        | succ i => exact ihl (fun y hy => hx y (by simp [hy])) i q
    have hN : ∀ n q, playN st1 s n q = playN st2 s n q ∨ playN st1 s n q = .error 5 := by
      intro n q
      cases s with
      | nil => exact .inl rfl
      | cons x s => exact hT x (by simp) n q
    simp only [play]
    split
    · exact .inl rfl
    · split
      · rcases h (b - a) q with e | e <;> rw [e]
        · exact .inl rfl
        · exact .inr rfl
      · split
        · rcases hL s (fun x hx => hx) q with e | e <;> rw [e]
          · exact .inl rfl
          · exact .inr rfl
        · split
          · rcases h a q with e | e <;> rw [e]
            · cases st2 a q with
              | error e => exact .inl rfl
              | ok r =>
                obtain ⟨c, q1⟩ := r
                simp only
                rcases hN c.toNat q1 with e | e <;> rw [e]
                · exact .inl rfl
                · exact .inr rfl
            · exact .inr rfl
          · split
            · rcases h (s.length - 1) q with e | e <;> rw [e]
              · cases st2 (s.length - 1) q with
                | error e => exact .inl rfl
                | ok r =>
                  obtain ⟨c, q1⟩ := r
                  exact hI s (fun x hx => hx) c.toNat q1
              · exact .inr rfl
            · exact .inl rfl
end
end GT
/-- With more behind it is none. -/
theorem play_more (g : GT) (hc : GT.check g = 0) (l : List Int) (x : Int) : (playR g (mendR g l ++ [x])).2 = 3 := by
  obtain ⟨t, _, h⟩ := mend_sim g hc l (stPlay (mendR g l ++ [x])) (fun out => out.length) (fun m out c h0 h1 hF => by
    obtain ⟨hi, he⟩ := prefix_get hF
    have hi2 : out.length < (mendR g l ++ [x]).length := by simp; omega
    unfold stPlay
    rw [dif_pos hi2, List.getElem_append_left hi, he, if_neg (by omega)]
    simp)
  simp only [List.length_nil] at h
  simp [playR, hc, h]
/-- TORN IT IS SHORT. -/
theorem play_torn (g : GT) (hc : GT.check g = 0) (l : List Int) (k : Nat) (hk : k < (mendR g l).length) : (playR g ((mendR g l).take k)).2 = 5 := by
  obtain ⟨t, _, h⟩ := play_mended g hc l
  have h2 := GT.play_par (stPlay ((mendR g l).take k)) (stPlay (mendR g l)) (fun m q => by
    by_cases hq : q < k
    · left
      have h1 : q < ((mendR g l).take k).length := by simp; omega
      have h2 : q < (mendR g l).length := by omega
      unfold stPlay
      rw [dif_pos h1, dif_pos h2, List.getElem_take]
    · right
      unfold stPlay
      rw [dif_neg (by simp; omega)]) g 0
  obtain ⟨t', _, hm⟩ := play_mended g hc l
  rcases h2 with e | e
  · rw [hm] at e
    exfalso
    have := GT.play_inv (stPlay ((mendR g l).take k)) (fun q => q ≤ k) (fun m q c q' _ h => stPlay_bd h) (fun m q c q' hm hm2 h hq => by
      obtain ⟨e1, hi, e2⟩ := stPlay_le h
      simp at hi
      omega) g (GT.check_ok hc) 0 (GT.check_parts hc) 0 t' _ e (Nat.zero_le _)
    omega
  · simp [playR, hc, e]
end Go.Proofs.YtcecpggkeaohnaaDoor
