/- Plain laws: how many numbers a made value holds; which one is found. The walks through the document's answers on tapes that fail. -/
import Derived.Test.YtibmnifenfingaaGreatDoorSHA
import Derived.Test.YtibmnifenfingaaGreatDoorRX3
import Derived.Test.YtibmnifenfingaaGreatDoorRF12
import Derived.Test.YtibmnifenfingaaGreatDoorRL2b
import Derived.Test.YtibmnifenfingaaGreatDoorWTI
namespace Go.Proofs.YtibmnifenfingaaGreatDoor
set_option maxRecDepth 100000
open Go.RowKit
set_option linter.unusedSimpArgs false
set_option linter.unusedVariables false
theorem times_leaves {σ : Type} (f : σ → Except Int (VT × σ)) (c : Nat) (hf : ∀ q t q', f q = .ok (t, q') → (VT.leaves t).length ≤ c) : ∀ (n : Nat) q l q', GT.times f n q = .ok (l, q') → (VT.leavesL l).length ≤ n * c := by
  intro n
  induction n with
  | zero => intro q l q' h; simp [GT.times] at h; rw [h.1]; simp [VT.leavesL]
  | succ n ih =>
    intro q l q' h
    simp only [GT.times] at h
    cases hq : f q with
    | error e => rw [hq] at h; cases h
    | ok r =>
      obtain ⟨v, q1⟩ := r
      rw [hq] at h
      simp only at h
      cases hq1 : GT.times f n q1 with
      | error e => rw [hq1] at h; cases h
      | ok r =>
        obtain ⟨l1, q2⟩ := r
        rw [hq1] at h
        simp only [Except.ok.injEq, Prod.mk.injEq] at h
        have h1 := hf q v q1 hq
        have h2 := ih q1 l1 q2 hq1
        rw [← h.1, Nat.add_mul]
        simp only [VT.leavesL, List.length_append]
        omega
theorem play_leaves {σ : Type} (st : Int → σ → Except Int (Int × σ)) (hbd : ∀ m q c q', 0 ≤ m → st m q = .ok (c, q') → 0 ≤ c ∧ c ≤ m) (g : GT) : GT.eachErr g = 0 → ∀ q t q', GT.play st g q = .ok (t, q') → (VT.leaves t).length ≤ GT.wt g := by
  induction g using GT.ind with
  | h k a b s ih =>
    intro he q t q' h
    have hk := GT.ok_kids he
    have hI : ∀ x ∈ s, ∀ q t q', GT.play st x q = .ok (t, q') → (VT.leaves t).length ≤ GT.wt x := fun x hx => ih x hx (hk x hx)
    have hL : ∀ (l : List GT), (∀ x ∈ l, x ∈ s) → ∀ q r q', GT.playL st l q = .ok (r, q') → (VT.leavesL r).length ≤ GT.wtL l := by
      intro l
      induction l with
      | nil => intro _ q r q' h; simp [GT.playL] at h; rw [h.1]; simp [VT.leavesL]
      | cons x l ihl =>
        intro hx q r q' h
        simp only [GT.playL] at h
        cases hq : GT.play st x q with
        | error e => rw [hq] at h; cases h
        | ok r1 =>
          obtain ⟨v, q1⟩ := r1
          rw [hq] at h
          simp only at h
          cases hq1 : GT.playL st l q1 with
          | error e => rw [hq1] at h; cases h
          | ok r2 =>
            obtain ⟨l1, q2⟩ := r2
            rw [hq1] at h
            simp only [Except.ok.injEq, Prod.mk.injEq] at h
            have h1 := hI x (hx x (by simp)) q v q1 hq
            have h2 := ihl (fun y hy => hx y (by simp [hy])) q1 l1 q2 hq1
            rw [← h.1]
            simp only [GT.wtL, VT.leavesL, List.length_append]
            omega
    have hIx : ∀ (l : List GT), (∀ x ∈ l, x ∈ s) → ∀ i q r q', GT.playI st l i q = .ok (r, q') → (VT.leaves r).length ≤ GT.wtL l := by
      intro l
      induction l with
      | nil => intro _ i q r q' h; simp [GT.playI] at h
      | cons x l ihl =>
        intro hx i q r q' h
        cases i with
        | zero =>
          have := hI x (hx x (by simp)) q r q' h
          simp only [GT.wtL]
          omega
        | succ i =>
          have := ihl (fun y hy => hx y (by simp [hy])) i q r q' h
          simp only [GT.wtL]
          omega
    have hleaf : ∀ n : Int, (VT.leaves (.mk false n [])).length = 1 := fun n => by simp [VT.leaves]
    have hpos := GT.wt_pos (.mk k a b s)
    rcases GT.one_cases (GT.ok_one he) with ⟨rfl, h1, h2, h3⟩ | ⟨rfl, h0, h0', h1, h2, h3⟩ | rfl | ⟨rfl, h1, h2, h3⟩ | ⟨rfl, h1⟩
    · simp [GT.play] at h
      rw [← h.1, hleaf]; exact hpos
    · simp only [GT.play, show ¬ ((2:Int) = 1) by decide, if_false, if_true] at h
      cases hq : st (b - a) q with
      | error e => rw [hq] at h; cases h
      | ok r =>
        rw [hq] at h
        simp only [Except.ok.injEq, Prod.mk.injEq] at h
        rw [← h.1, hleaf]; exact hpos
    · simp only [GT.play, show ¬ ((3:Int) = 1) by decide, show ¬ ((3:Int) = 2) by decide, if_false, if_true] at h
      cases hq : GT.playL st s q with
      | error e => rw [hq] at h; cases h
      | ok r =>
        obtain ⟨l, q1⟩ := r
        rw [hq] at h
        simp only [Except.ok.injEq, Prod.mk.injEq] at h
        have := hL s (fun _ h => h) q l q1 hq
        rw [← h.1]
        simp only [VT.leaves, GT.wt, if_true]
        omega
    · simp only [GT.play, show ¬ ((4:Int) = 1) by decide, show ¬ ((4:Int) = 2) by decide, show ¬ ((4:Int) = 3) by decide, if_false, if_true] at h
      cases hq : st a q with
      | error e => rw [hq] at h; cases h
      | ok r =>
        obtain ⟨c, q1⟩ := r
        rw [hq] at h
        simp only at h
        cases hq1 : GT.playN st s c.toNat q1 with
        | error e => rw [hq1] at h; cases h
        | ok r =>
          obtain ⟨l, q2⟩ := r
          rw [hq1] at h
          simp only [Except.ok.injEq, Prod.mk.injEq] at h
          rw [← h.1]
          simp only [VT.leaves, GT.wt, show ¬ ((4:Int) = 3) by decide, if_false, if_true]
          match s, h1, hq1, hI with
          | [x], _, hq1, hI =>
            simp only [GT.playN] at hq1
            have hc := hbd a q c q1 (by omega) hq
            have ht := times_leaves (fun q => GT.play st x q) (GT.wt x) (hI x (by simp)) c.toNat q1 l q2 hq1
            have hm : c.toNat * GT.wt x ≤ 5 * GT.wt x := Nat.mul_le_mul_right _ (by omega)
            simp only [GT.wtL]
            omega
    · simp only [GT.play, show ¬ ((5:Int) = 1) by decide, show ¬ ((5:Int) = 2) by decide, show ¬ ((5:Int) = 3) by decide, show ¬ ((5:Int) = 4) by decide, if_false, if_true] at h
      cases hq : st (s.length - 1) q with
      | error e => rw [hq] at h; cases h
      | ok r =>
        obtain ⟨c, q1⟩ := r
        rw [hq] at h
        simp only at h
        have := hIx s (fun _ h => h) c.toNat q1 t q' h
        simp only [GT.wt, show ¬ ((5:Int) = 3) by decide, show ¬ ((5:Int) = 4) by decide, if_false, if_true]
        omega
theorem played_leaves {g : GT} {l : List Int} (h : (playR g l).2 = 0) : (VT.leaves (playR g l).1).length ≤ 17592186044416 := by
  obtain ⟨hc, _, _⟩ := played_fit h
  have hw := GT.wt_ok hc
  simp only [playR, hc, if_true] at h ⊢
  cases hp : GT.play (stPlay l) g 0 with
  | error e =>
    rw [hp] at h
    simp only at h
    have := GT.play_err (stPlay l) (fun e => e = 1 ∨ e = 5) (fun m q e h => stPlay_err h) (fun m q c q' _ h => stPlay_bd h) g (GT.check_ok hc) 0 e hp
    omega
  | ok r =>
    obtain ⟨v, i⟩ := r
    rw [hp] at h
    simp only at h
    by_cases hi : i < l.length
    · rw [if_pos hi] at h; simp at h
    · simp only [if_neg hi]
      have := play_leaves (stPlay l) (fun m q c q' _ h => stPlay_bd h) g (GT.check_ok hc) 0 v i hp
      omega
theorem told_none {x : ET} {v : VT} (hx : ET.check x = 0) (hv : VT.chk v 0 = 0) (h : ET.told x v = none) : (ET.failsR x v).1 = true := by
  have HE : ET.evalR x v = (0, 6) := by
    unfold ET.evalR
    rw [if_neg (by omega), if_neg (by omega), h]
  unfold ET.failsR
  rw [HE]; rfl
theorem told_some {x : ET} {v : VT} {n : Int} (hx : ET.check x = 0) (hv : VT.chk v 0 = 0) (h : ET.told x v = some n) : (ET.failsR x v).1 = (n == 0) := by
  have HE : ET.evalR x v = (n, 0) := by
    unfold ET.evalR
    rw [if_neg (by omega), if_neg (by omega), h]
  unfold ET.failsR
  rw [HE]; rfl
theorem find_at {p : List Int → Bool} : ∀ (l : List (List Int)) (k : Nat) (h : k < l.length), (∀ j (hj : j < l.length), j < k → p l[j] = false) → p l[k] = true → l.find? p = some l[k] := by
  intro l
  induction l with
  | nil => intro k h; simp at h
  | cons m l ih =>
    intro k h hn hp
    cases k with
    | zero => simp only [List.getElem_cons_zero] at hp ⊢; rw [List.find?_cons, hp]
    | succ k =>
      have h0 := hn 0 (by simp) (by omega)
      simp only [List.getElem_cons_zero] at h0
      simp only [List.getElem_cons_succ] at hp ⊢
      rw [List.find?_cons, h0]
      exact ih k (by simpa using h) (fun j hj hjk => by have := hn (j + 1) (by simpa using hj) (by omega); simpa using this) hp
theorem find_no {p : List Int → Bool} {l : List (List Int)} (h : ∀ j (hj : j < l.length), p l[j] = false) : l.find? p = none := by
  rw [List.find?_eq_none]
  intro m hm
  obtain ⟨j, hj, rfl⟩ := List.getElem_of_mem hm
  rw [h j hj]; simp
set_option maxHeartbeats 4000000 in
theorem rbt_any (g : GT) (x : ET) (t : List Int) (hp : (playR g t).2 = 0) (hx : ET.check x = 0) (gv xv tv : Value) (w : World) (hg : GenAt w gv g) (hxv : ExprAt w xv x) (ht : IntsAt w tv t) :
    Calls Tryz.prog 21 #[gv, xv, tv] w fun e w' => e = .returned (.bool (badR g x t)) ∧ Below w.heap.size w w' := by
  have C1 := Lib.hid (fun W (h : Below w.heap.size w W) => rreplay_any g (played_fit hp).1 t gv tv W (hg.ext h) (ht.ext h))
  have C2 : Hid (∀ (W : World) (vv : Value), Below w.heap.size w W → ValAt W vv (playR g t).1 → Calls Tryz.prog 44 #[xv, vv] W fun e w' => e = .returned (.bool (badR g x t)) ∧ Below W.heap.size W w') := fun W vv h hv => by
    have h1 := rbad_any x (playR g t).1 xv vv W (ET.check_each hx) (playR_chk g t hp) (played_leaves hp) (hxv.ext h) hv
    unfold badR
    cases hto : ET.told x (playR g t).1 with
    | none => rw [told_none hx (playR_chk g t hp) hto]; simp only [hto] at h1; exact h1
    | some n => rw [told_some hx (playR_chk g t hp) hto]; simp only [hto] at h1; exact h1
  rw [hp] at C1
  obtain ⟨gk, ga, gb, gn, gad, gcap, rfl⟩ := hg.shape
  obtain ⟨xk, xn, xs, xad, xcap, rfl⟩ := hxv.shape
  obtain ⟨tad, tcap, rfl, _⟩ := ht.form
  clear hg hxv ht hp hx
  go_enter Tryz.func21, Tryz.ntmps21
  go_wp2_with fail
  have x1 := Blk.new (w.alloc (.cells #[.int .i64 gk, .int .i64 ga, .int .i64 gb, .slice gad gn gcap] 24)) #[.int .i64 xk, .int .i64 xn, .slice xad xs xcap] 27
  have hB0 : Below w.heap.size w ((w.alloc (.cells #[.int .i64 gk, .int .i64 ga, .int .i64 gb, .slice gad gn gcap] 24)).alloc (.cells #[.int .i64 xk, .int .i64 xn, .slice xad xs xcap] 27)) := by repeat (first | with_reducible assumption | with_reducible exact Below.refl _ _ | with_reducible apply Below.drew | (with_reducible refine Below.alloc ?_ (by first | omega | (simp only [zA, zS, zD, zN]; omega) | (dsimp only; omega) | (simp only [zA, zS, zD, zN]; dsimp only; omega)) _) | (with_reducible refine Below.setCell ?_ (by first | omega | (simp only [zA, zS, zD, zN]; omega) | (dsimp only; omega) | (simp only [zA, zS, zD, zN]; dsimp only; omega)) _) | (with_reducible apply below_drewN))
  simp only [World.size_alloc] at x1
  refine (C1.out _ hB0).mono ?_
  rintro _ w1 ⟨⟨rv, rfl, hrv⟩, hb1⟩
  have hB1 := hB0.trans (hb1.mono hB0.size)
  have x1 := x1.ext hb1
  have HR := Lib.hid hrv.at
  obtain ⟨rl, rn, rk, rad, rcap, rfl⟩ := hrv.shape
  clear hb1 hrv hB0 C1
  go_upto_region 2 with (fail)
  obtain ⟨pt, hpt⟩ : ∃ p, p = w1.heap.size := ⟨_, rfl⟩
  rw [← hpt]
  generalize hW : w1.alloc (.cells #[.bool rl, .int .i64 rn, .slice rad rk rcap] 45) = w2
  have hB2 : Below w.heap.size w w2 := by rw [← hW]; exact hB1.alloc hB1.size _
  have x1 : Blk w2 (w.heap.size + 1) #[.int .i64 xk, .int .i64 xn, .slice xad xs xcap] 27 := by rw [← hW]; exact x1.alloc (.cells #[.bool rl, .int .i64 rn, .slice rad rk rcap] 45)
  have x2 : Blk w2 pt #[.bool rl, .int .i64 rn, .slice rad rk rcap] 45 := by rw [← hW, hpt]; exact Blk.new _ _ _
  have HR := Lib.hid (HR.out.ext (show Below w1.heap.size w1 w2 by rw [← hW]; exact (Below.refl _ _).alloc (Nat.le_refl _) _))
  clear hW hpt hB1
  have f0 := x1.cell 0
  have f1 := x1.cell 1
  have f2 := x1.cell 2
  simp only [List.getElem?_toArray, List.getElem?_cons_succ, List.getElem?_cons_zero] at f0 f1 f2
  have h0 := x2.cell 0
  have h1 := x2.cell 1
  have h2 := x2.cell 2
  simp only [List.getElem?_toArray, List.getElem?_cons_succ, List.getElem?_cons_zero] at h0 h1 h2
  go_wp2_with fail
  refine (C2.out _ _ hB2 HR.out).mono ?_
  rintro _ w3 ⟨rfl, hb3⟩
  have hB3 := hB2.trans (hb3.mono hB2.size)
  clear f0 f1 f2 h0 h1 h2 hb3
  go_wp2_with fail
  go_ret
  exact ⟨rfl, hB3⟩
end Go.Proofs.YtibmnifenfingaaGreatDoor
