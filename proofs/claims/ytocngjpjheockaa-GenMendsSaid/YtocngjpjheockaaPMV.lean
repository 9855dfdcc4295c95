/- Plain laws of playing and mending. The walks through val.Check. -/
import Derived.Test.YtocngjpjheockaaPLY
import Derived.Test.YtocngjpjheockaaPVT
namespace Go.Proofs.Ytocngjpjheockaa
set_option maxRecDepth 100000
set_option linter.unusedSimpArgs false
set_option linter.unusedVariables false
namespace GT
section
variable {σ τ : Type} (st1 : Int → σ → Except Int (Int × σ)) (st2 : Int → τ → Except Int (Int × τ)) (le : σ → σ → Prop) (F : σ) (f : σ → τ)
/-- What one step does alike, up to the end F, playing does alike. -/
theorem play_sim (hr : ∀ q, le q q) (htr : ∀ a b c, le a b → le b c → le a c) (hmono : ∀ m q c q', st1 m q = .ok (c, q') → le q q') (hbd : ∀ m q c q', 0 ≤ m → st1 m q = .ok (c, q') → 0 ≤ c ∧ c ≤ m)
    (hsim : ∀ m q c q', 0 ≤ m → st1 m q = .ok (c, q') → le q' F → st2 m (f q) = .ok (c, f q')) (g : GT) : eachErr g = 0 → ∀ q t q', play st1 g q = .ok (t, q') → le q q' ∧ (le q' F → play st2 g (f q) = .ok (t, f q')) := by
  induction g using GT.ind with
  | h k a b s ih =>
    intro he q t q' h
    have hk := ok_kids he
    have hI : ∀ x ∈ s, ∀ q t q', play st1 x q = .ok (t, q') → le q q' ∧ (le q' F → play st2 x (f q) = .ok (t, f q')) := fun x hx => ih x hx (hk x hx)
    rcases one_cases (ok_one he) with ⟨rfl, h1, h2, h3⟩ | ⟨rfl, h0, h0', h1, h2, h3⟩ | rfl | ⟨rfl, h1, h2, h3⟩ | ⟨rfl, h1⟩
    · simp [play] at h
      obtain ⟨rfl, rfl⟩ := h
      exact ⟨hr q, fun _ => by simp [play]⟩
    · simp only [play, show ¬ ((2:Int) = 1) by decide, if_false, if_true] at h ⊢
      cases hq : st1 (b - a) q with
      | error e => rw [hq] at h; cases h
      | ok r =>
        obtain ⟨c, q1⟩ := r
        rw [hq] at h
        simp only [Except.ok.injEq, Prod.mk.injEq] at h
        obtain ⟨rfl, rfl⟩ := h
        exact ⟨hmono _ _ _ _ hq, fun hF => by rw [hsim _ _ _ _ (by omega) hq hF]⟩
    · have hL : ∀ (l : List GT), (∀ x ∈ l, x ∈ s) → ∀ q r q', playL st1 l q = .ok (r, q') → le q q' ∧ (le q' F → playL st2 l (f q) = .ok (r, f q')) := by
        intro l
        induction l with
        | nil => intro _ q r q' h; simp [playL] at h; obtain ⟨rfl, rfl⟩ := h; exact ⟨hr q, fun _ => rfl⟩
        | cons x l ihl =>
          intro hx q r q' h
          simp only [playL] at h
          cases hq : play st1 x q with
          | error e => rw [hq] at h; cases h
          | ok r1 =>
            obtain ⟨v, q1⟩ := r1
            rw [hq] at h
            simp only at h
            cases hq1 : playL st1 l q1 with
            | error e => rw [hq1] at h; cases h
            | ok r2 =>
              obtain ⟨l1, q2⟩ := r2
              rw [hq1] at h
              simp only [Except.ok.injEq, Prod.mk.injEq] at h
              obtain ⟨rfl, rfl⟩ := h
              have h1 := hI x (hx x (by simp)) q v q1 hq
              have h2 := ihl (fun y hy => hx y (by simp [hy])) q1 l1 q2 hq1
              refine ⟨htr _ _ _ h1.1 h2.1, fun hF => ?_⟩
              simp only [playL]
              rw [h1.2 (htr _ _ _ h2.1 hF)]
              simp only
              rw [h2.2 hF]
      simp only [play, show ¬ ((3:Int) = 1) by decide, show ¬ ((3:Int) = 2) by decide, if_false, if_true] at h ⊢
      cases hq : playL st1 s q with
      | error e => rw [hq] at h; cases h
      | ok r =>
        obtain ⟨l, q1⟩ := r
        rw [hq] at h
        simp only [Except.ok.injEq, Prod.mk.injEq] at h
        obtain ⟨rfl, rfl⟩ := h
        have h1 := hL s (fun x hx => hx) q l q1 hq
        exact ⟨h1.1, fun hF => by rw [h1.2 hF]⟩
    · simp only [play, show ¬ ((4:Int) = 1) by decide, show ¬ ((4:Int) = 2) by decide, show ¬ ((4:Int) = 3) by decide, if_false, if_true] at h ⊢
      cases hq : st1 a q with
      | error e => rw [hq] at h; cases h
      | ok r =>
        obtain ⟨c, q1⟩ := r
        rw [hq] at h
        simp only at h
        match s, h1, hI, h with
        | [y], _, hI, h =>
          have hT : ∀ n q r q', times (fun q => play st1 y q) n q = .ok (r, q') → le q q' ∧ (le q' F → times (fun q => play st2 y q) n (f q) = .ok (r, f q')) := by
            intro n
            induction n with
            | zero => intro q r q' h; simp [times] at h; obtain ⟨rfl, rfl⟩ := h; exact ⟨hr q, fun _ => rfl⟩
            | succ n ihn =>
              intro q r q' h
              simp only [times] at h
              cases hq : play st1 y q with
              | error e => rw [hq] at h; cases h
              | ok r1 =>
                obtain ⟨v, q1⟩ := r1
                rw [hq] at h
                simp only at h
                cases hq1 : times (fun q => play st1 y q) n q1 with
                | error e => rw [hq1] at h; cases h
                | ok r2 =>
                  obtain ⟨l1, q2⟩ := r2
                  rw [hq1] at h
                  simp only [Except.ok.injEq, Prod.mk.injEq] at h
                  obtain ⟨rfl, rfl⟩ := h
                  have h1 := hI y (by simp) q v q1 hq
                  have h2 := ihn q1 l1 q2 hq1
                  refine ⟨htr _ _ _ h1.1 h2.1, fun hF => ?_⟩
                  simp only [times]
                  rw [h1.2 (htr _ _ _ h2.1 hF)]
                  simp only
                  rw [h2.2 hF]
          simp only [playN] at h
          cases hq1 : times (fun q => play st1 y q) c.toNat q1 with
          | error e => rw [hq1] at h; cases h
          | ok r2 =>
            obtain ⟨l1, q2⟩ := r2
            rw [hq1] at h
            simp only [Except.ok.injEq, Prod.mk.injEq] at h
            obtain ⟨rfl, rfl⟩ := h
            have h5 := hT c.toNat q1 l1 q2 hq1
            refine ⟨htr _ _ _ (hmono _ _ _ _ hq) h5.1, fun hF => ?_⟩
            rw [hsim _ _ _ _ h2 hq (htr _ _ _ h5.1 hF)]
            simp only [playN]
            rw [h5.2 hF]
    · simp only [play, show ¬ ((5:Int) = 1) by decide, show ¬ ((5:Int) = 2) by decide, show ¬ ((5:Int) = 3) by decide, show ¬ ((5:Int) = 4) by decide, if_false, if_true] at h ⊢
      cases hq : st1 (s.length - 1) q with
      | error e => rw [hq] at h; cases h
      | ok r =>
        obtain ⟨c, q1⟩ := r
        rw [hq] at h
        have hc := hbd _ _ _ _ (by omega) hq
        have hi : c.toNat < s.length := by omega
        simp only at h
        rw [playI_get st1 s c.toNat hi] at h
        have h5 := hI s[c.toNat] (List.getElem_mem hi) q1 t q' h
        refine ⟨htr _ _ _ (hmono _ _ _ _ hq) h5.1, fun hF => ?_⟩
        rw [hsim _ _ _ _ (by omega) hq (htr _ _ _ h5.1 hF)]
        simp only
        rw [playI_get st2 s c.toNat hi]
        exact h5.2 hF
end
end GT
theorem stMend_bd {tape : List Int} {m : Int} {q : List Int} {c : Int} {q' : List Int} (hm : 0 ≤ m) (h : stMend tape m q = .ok (c, q')) : 0 ≤ c ∧ c ≤ m := by
  simp only [stMend, Except.ok.injEq, Prod.mk.injEq] at h
  rw [← h.1]
  exact mendAt_bd tape m q hm
/-- What is mended, and the value that it makes. -/
theorem mend_play (g : GT) (hc : GT.check g = 0) (l : List Int) : ∃ t, GT.play (stMend l) g [] = .ok (t, mendR g l) := by
  obtain ⟨t, out, h⟩ := GT.play_total (stMend l) (fun m q _ => ⟨_, _, rfl⟩) (fun m q c q' hm h => stMend_bd hm h) g (GT.check_ok hc) []
  exact ⟨t, by rw [h]; simp [mendR, h]⟩
theorem prefix_get {out M : List Int} {c : Int} (h : out ++ [c] <+: M) : ∃ hi : out.length < M.length, M[out.length] = c := by
  obtain ⟨r, rfl⟩ := h
  refine ⟨by simp, ?_⟩
  simp [List.getElem_append]
theorem mend_sim (g : GT) (hc : GT.check g = 0) (l : List Int) {τ : Type} (st2 : Int → τ → Except Int (Int × τ)) (f : List Int → τ)
    (hsim : ∀ m out c, 0 ≤ c → c ≤ m → out ++ [c] <+: mendR g l → st2 m (f out) = .ok (c, f (out ++ [c]))) :
    ∃ t, GT.play (stMend l) g [] = .ok (t, mendR g l) ∧ GT.play st2 g (f []) = .ok (t, f (mendR g l)) := by
  obtain ⟨t, h⟩ := mend_play g hc l
  refine ⟨t, h, ?_⟩
  refine (GT.play_sim (stMend l) st2 (fun a b => a <+: b) (mendR g l) f (fun q => List.prefix_refl q) (fun a b c h1 h2 => h1.trans h2) (fun m q c q' h => ?_) (fun m q c q' hm h => stMend_bd hm h) (fun m q c q' hm h hF => ?_) g (GT.check_ok hc) [] t _ h).2 (List.prefix_refl _)
  · simp only [stMend, Except.ok.injEq, Prod.mk.injEq] at h
    rw [← h.2]
    exact List.prefix_append _ _
  · have hb := stMend_bd hm h
    simp only [stMend, Except.ok.injEq, Prod.mk.injEq] at h
    obtain ⟨rfl, rfl⟩ := h
    exact hsim m q _ hb.1 hb.2 hF
/-- What is mended can be played. -/
theorem play_mended (g : GT) (hc : GT.check g = 0) (l : List Int) : ∃ t, playR g (mendR g l) = (t, 0) ∧ GT.play (stPlay (mendR g l)) g 0 = .ok (t, (mendR g l).length) := by
  obtain ⟨t, _, h⟩ := mend_sim g hc l (stPlay (mendR g l)) (fun out => out.length) (fun m out c h0 h1 hF => by
    obtain ⟨hi, he⟩ := prefix_get hF
    unfold stPlay
    rw [dif_pos hi, he, if_neg (by omega)]
    simp)
  simp only [List.length_nil] at h
  exact ⟨t, by simp [playR, hc, h], h⟩
/-- What stands behind it goes. -/
theorem mend_more (g : GT) (hc : GT.check g = 0) (l more : List Int) : mendR g (mendR g l ++ more) = mendR g l := by
  obtain ⟨t, _, h⟩ := mend_sim g hc l (stMend (mendR g l ++ more)) (fun out => out) (fun m out c h0 h1 hF => by
    obtain ⟨hi, he⟩ := prefix_get hF
    have hi2 : out.length < (mendR g l ++ more).length := by simp; omega
    have : mendAt (mendR g l ++ more) m out = c := by
      unfold mendAt
      rw [dif_pos hi2, List.getElem_append_left hi, he]
      omega
    simp [stMend, this])
  have h2 : mendR g (mendR g l ++ more) = (match GT.play (stMend (mendR g l ++ more)) g [] with | .ok (_, out) => out | .error _ => []) := rfl
  rw [h2, h]
theorem stPlay_le {tape : List Int} {m : Int} {q : Nat} {c : Int} {q' : Nat} (h : stPlay tape m q = .ok (c, q')) : q' = q + 1 ∧ ∃ hi : q < tape.length, tape[q] = c := by
  unfold stPlay at h
  split at h
  · rename_i hi
    split at h
    · cases h
    · simp only [Except.ok.injEq, Prod.mk.injEq] at h
      exact ⟨h.2.symm, hi, h.1⟩
  · cases h
theorem take_snoc (l : List Int) (i : Nat) (h : i < l.length) : l.take i ++ [l[i]] = l.take (i + 1) := by
  rw [List.take_add_one, List.getElem?_eq_getElem h]; rfl
/-- A tape that can be played stays. -/
theorem played_stays (g : GT) (hc : GT.check g = 0) (l : List Int) : (playR g l).2 = 0 ↔ mendR g l = l := by
  constructor
  · intro h
    simp only [playR, hc, if_true] at h
    cases hp : GT.play (stPlay l) g 0 with
    | error e =>
      rw [hp] at h
      simp only at h
      have := GT.play_err (stPlay l) (fun e => e = 1 ∨ e = 5) (fun m q e h => stPlay_err h) (fun m q c q' _ h => stPlay_bd h) g (GT.check_ok hc) 0 e hp
      omega
    | ok r =>
      obtain ⟨t, i⟩ := r
      rw [hp] at h
      simp only at h
      by_cases hi : i < l.length
      · rw [if_pos hi] at h; simp at h
      · have h2 := (GT.play_sim (stPlay l) (stMend l) (fun a b => a ≤ b) i (fun i => l.take i) (fun q => Nat.le_refl q) (fun a b c h1 h2 => Nat.le_trans h1 h2) (fun m q c q' h => by have := (stPlay_le h).1; omega)
          (fun m q c q' _ h => stPlay_bd h) (fun m q c q' hm h hF => by
            have hb := stPlay_bd h
            obtain ⟨rfl, hi2, he⟩ := stPlay_le h
            have hlen : (l.take q).length = q := by simp; omega
            have hget : mendAt l m (l.take q) = c := by
              unfold mendAt
              rw [dif_pos (by omega)]
              have : l[(l.take q).length]'(by omega) = c := by
                rw [← he]; congr 1
              rw [this]
              omega
            simp only [stMend, hget, Except.ok.injEq, Prod.mk.injEq, true_and]
            rw [← he]
            exact take_snoc l q hi2) g (GT.check_ok hc) 0 t i hp).2 (Nat.le_refl _)
        simp only [List.take_zero] at h2
        have h3 : mendR g l = (match GT.play (stMend l) g [] with | .ok (_, out) => out | .error _ => []) := rfl
        rw [h3, h2]
        simp only
        exact List.take_of_length_le (by omega)
  · intro h
    obtain ⟨t, h1, _⟩ := play_mended g hc l
    rw [h] at h1
    rw [h1]
/-! ### the value that is made is right -/
namespace GT
theorem play_chk {σ : Type} (st : Int → σ → Except Int (Int × σ)) (hbd : ∀ m q c q', 0 ≤ m → st m q = .ok (c, q') → 0 ≤ c ∧ c ≤ m) (g : GT) : eachErr g = 0 → ∀ d, (parts g d).2 = true → ∀ d', d' ≤ d → ∀ q t q', play st g q = .ok (t, q') → VT.chk t d' = 0 := by
  induction g using GT.ind with
  | h k a b s ih =>
    intro he d hp d' hd' q t q' h
    have hk := ok_kids he
    obtain ⟨hlen, hd, hpk⟩ := GT.parts_kids hp
    have hI : ∀ x ∈ s, ∀ d', d' ≤ d + 1 → ∀ q t q', play st x q = .ok (t, q') → VT.chk t d' = 0 := fun x hx => ih x hx (hk x hx) (d + 1) (hpk x hx)
    have hleaf : ∀ n : Int, VT.chk (.mk false n []) d' = 0 := by intro n; simp [VT.chk, VT.chkL]; omega
    have hlist : ∀ ts : List VT, (∀ t ∈ ts, VT.chk t (d' + 1) = 0) → VT.chk (.mk true 0 ts) d' = 0 := by
      intro ts hts
      simp [VT.chk, (VT.chkL_zero ts (d' + 1)).2 hts]
      omega
    rcases one_cases (ok_one he) with ⟨rfl, h1, h2, h3⟩ | ⟨rfl, h0, h0', h1, h2, h3⟩ | rfl | ⟨rfl, h1, h2, h3⟩ | ⟨rfl, h1⟩
    · simp [play] at h
      rw [← h.1]; exact hleaf a
    · simp only [play, show ¬ ((2:Int) = 1) by decide, if_false, if_true] at h
      cases hq : st (b - a) q with
      | error e => rw [hq] at h; cases h
      | ok r =>
        rw [hq] at h
        simp only [Except.ok.injEq, Prod.mk.injEq] at h
        rw [← h.1]; exact hleaf _
    · have hL : ∀ (l : List GT), (∀ x ∈ l, x ∈ s) → ∀ q r q', playL st l q = .ok (r, q') → ∀ t ∈ r, VT.chk t (d' + 1) = 0 := by
        intro l
        induction l with
        | nil => intro _ q r q' h; simp [playL] at h; rw [h.1]; simp
        | cons x l ihl =>
          intro hx q r q' h
          simp only [playL] at h
          cases hq : play st x q with
          | error e => rw [hq] at h; cases h
          | ok r1 =>
            obtain ⟨v, q1⟩ := r1
            rw [hq] at h
            simp only at h
            cases hq1 : playL st l q1 with
            | error e => rw [hq1] at h; cases h
            | ok r2 =>
              obtain ⟨l1, q2⟩ := r2
              rw [hq1] at h
              simp only [Except.ok.injEq, Prod.mk.injEq] at h
              rw [← h.1]
              intro t ht
              rcases List.mem_cons.1 ht with rfl | ht
              · exact hI x (hx x (by simp)) _ (by omega) q _ q1 hq
              · exact ihl (fun y hy => hx y (by simp [hy])) q1 l1 q2 hq1 t ht
      simp only [play, show ¬ ((3:Int) = 1) by decide, show ¬ ((3:Int) = 2) by decide, if_false, if_true] at h
      cases hq : playL st s q with
      | error e => rw [hq] at h; cases h
      | ok r =>
        obtain ⟨l, q1⟩ := r
        rw [hq] at h
        simp only [Except.ok.injEq, Prod.mk.injEq] at h
        rw [← h.1]
        exact hlist l (hL s (fun x hx => hx) q l q1 hq)
    · simp only [play, show ¬ ((4:Int) = 1) by decide, show ¬ ((4:Int) = 2) by decide, show ¬ ((4:Int) = 3) by decide, if_false, if_true] at h
      cases hq : st a q with
      | error e => rw [hq] at h; cases h
      | ok r =>
        obtain ⟨c, q1⟩ := r
        rw [hq] at h
        simp only at h
        match s, h1, hI, h with
        | [y], _, hI, h =>
          have hT : ∀ n q r q', times (fun q => play st y q) n q = .ok (r, q') → ∀ t ∈ r, VT.chk t (d' + 1) = 0 := by
            intro n
            induction n with
            | zero => intro q r q' h; simp [times] at h; rw [h.1]; simp
            | succ n ihn =>
              intro q r q' h
              simp only [times] at h
              cases hq : play st y q with
              | error e => rw [hq] at h; cases h
              | ok r1 =>
                obtain ⟨v, q1⟩ := r1
                rw [hq] at h
                simp only at h
                cases hq1 : times (fun q => play st y q) n q1 with
                | error e => rw [hq1] at h; cases h
                | ok r2 =>
                  obtain ⟨l1, q2⟩ := r2
                  rw [hq1] at h
                  simp only [Except.ok.injEq, Prod.mk.injEq] at h
                  rw [← h.1]
                  intro t ht
                  rcases List.mem_cons.1 ht with rfl | ht
                  · exact hI y (by simp) _ (by omega) q _ q1 hq
                  · exact ihn q1 l1 q2 hq1 t ht
          simp only [playN] at h
          cases hq1 : times (fun q => play st y q) c.toNat q1 with
          | error e => rw [hq1] at h; cases h
          | ok r2 =>
            obtain ⟨l1, q2⟩ := r2
            rw [hq1] at h
            simp only [Except.ok.injEq, Prod.mk.injEq] at h
            rw [← h.1]
            exact hlist l1 (hT c.toNat q1 l1 q2 hq1)
    · simp only [play, show ¬ ((5:Int) = 1) by decide, show ¬ ((5:Int) = 2) by decide, show ¬ ((5:Int) = 3) by decide, show ¬ ((5:Int) = 4) by decide, if_false, if_true] at h
      cases hq : st (s.length - 1) q with
      | error e => rw [hq] at h; cases h
      | ok r =>
        obtain ⟨c, q1⟩ := r
        rw [hq] at h
        have hc := hbd _ _ _ _ (by omega) hq
        have hi : c.toNat < s.length := by omega
        simp only at h
        rw [playI_get st s c.toNat hi] at h
        exact hI s[c.toNat] (List.getElem_mem hi) d' (by omega) q1 t q' h
end GT
theorem playR_chk (g : GT) (l : List Int) (h : (playR g l).2 = 0) : VT.chk (playR g l).1 0 = 0 := by
  by_cases hc : GT.check g = 0
  · simp only [playR, hc, if_true] at h ⊢
    cases hp : GT.play (stPlay l) g 0 with
    | error e =>
      rw [hp] at h
      simp only
      simp [VT.chk, zeroV, VT.chkL]
    | ok r =>
      obtain ⟨t, i⟩ := r
      rw [hp] at h
      simp only at h ⊢
      split
      · simp [VT.chk, zeroV, VT.chkL]
      · exact GT.play_chk (stPlay l) (fun m q c q' _ h => stPlay_bd h) g (GT.check_ok hc) 0 (GT.check_parts hc) 0 (Nat.le_refl _) 0 t i hp
  · simp [playR, hc] at h
end Go.Proofs.Ytocngjpjheockaa
namespace Go.Proofs.Ytocngjpjheockaa
set_option maxRecDepth 100000
open Go.RowKit
set_option linter.unusedSimpArgs false
set_option linter.unusedVariables false
end Go.Proofs.Ytocngjpjheockaa
