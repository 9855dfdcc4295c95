/- The walk through the document's answer on how many tapes there are. -/
import Derived.Test.YtbfnlaplhgknaaaDoorGENC
import Derived.Deep.DeepCutAuto
namespace Go.Proofs.YtbfnlaplhgknaaaDoor
set_option maxRecDepth 100000
open Go.RowKit
set_option linter.unusedSimpArgs false
set_option linter.unusedVariables false
namespace GT
/-- How many of fewer than so many, as the document reckons. -/
def refK (c : Int) : Nat → Int → Int → Int
  | 0, n, _ => n
  | m + 1, n, p => refK c m (capped (n + p)) (capped (p * c))
theorem refK_many (c : Int) : ∀ (m : Nat) (n p : Int), refK c m n (capped (p * c)) = manyK c m n p := by
  intro m
  induction m with
  | zero => intro n p; rfl
  | succ m ih => intro n p; simp only [refK, manyK]; rw [ih]
theorem refK_start (c : Int) (m : Nat) (h1 : 1 ≤ c) (h2 : c ≤ 1048577) : refK c (m + 1) 0 1 = manyK c m 1 1 := by
  have := refK_many c m 1 1
  simp only [refK]
  rw [← this]
  rfl
theorem capped_lt {n : Int} (h : n < 1048577) : capped n = n := by unfold capped; omega
theorem capped_ge {n : Int} (h : ¬ n < 1048577) : capped n = 1048577 := by unfold capped; omega
end GT
set_option maxHeartbeats 4000000 in
theorem rcountof_any (g : GT) : ∀ (v : Value) (w : World), GT.eachErr g = 0 → GenAt w v g → Calls Tryd.prog 10 #[v] w fun e w' => e = .returned (.int .i64 (GT.count g)) ∧ Below w.heap.size w w' := by
  induction g using GT.ind with
  | h k a b s ih =>
    intro v w hok hg
    obtain ⟨k', a', b', s', ad, cap, hmk, rfl, hk, ha, hb, hl, hm, hs⟩ := hg.form
    obtain ⟨rfl, rfl, rfl, rfl⟩ := GT.mk.inj hmk
    clear hg hmk
    have IH := Lib.hid ih
    clear ih
    have HK := Lib.hid (GT.ok_kids hok)
    rcases GT.one_cases (GT.ok_one hok) with ⟨rfl, _⟩ | ⟨rfl, _, h0, h0', h1, h2⟩ | rfl | ⟨rfl, h1, h2, h3⟩ | ⟨rfl, h1⟩
    · go_enter Tryd.func10, Tryd.ntmps10
      go_wp2_with fail
      go_ret
      exact ⟨rfl, by repeat (first | with_reducible assumption | with_reducible exact Below.refl _ _ | with_reducible apply Below.drew | (with_reducible refine Below.alloc ?_ (by first | omega | (simp only [World.size_alloc, size_setCell, size_drew, size_drewN]; omega) | (dsimp only; omega) | (simp only [World.size_alloc, size_setCell, size_drew, size_drewN]; dsimp only; omega)) _) | (with_reducible refine Below.setCell ?_ (by first | omega | (simp only [World.size_alloc, size_setCell, size_drew, size_drewN]; omega) | (dsimp only; omega) | (simp only [World.size_alloc, size_setCell, size_drew, size_drewN]; dsimp only; omega)) _) | (with_reducible apply below_drewN))⟩
    · go_enter Tryd.func10, Tryd.ntmps10
      go_wp2_with fail
      go_ret
      exact ⟨rfl, by repeat (first | with_reducible assumption | with_reducible exact Below.refl _ _ | with_reducible apply Below.drew | (with_reducible refine Below.alloc ?_ (by first | omega | (simp only [World.size_alloc, size_setCell, size_drew, size_drewN]; omega) | (dsimp only; omega) | (simp only [World.size_alloc, size_setCell, size_drew, size_drewN]; dsimp only; omega)) _) | (with_reducible refine Below.setCell ?_ (by first | omega | (simp only [World.size_alloc, size_setCell, size_drew, size_drewN]; omega) | (dsimp only; omega) | (simp only [World.size_alloc, size_setCell, size_drew, size_drewN]; dsimp only; omega)) _) | (with_reducible apply below_drewN))⟩
    · have HC : Hid (GT.count (.mk 3 a b s) = GT.prodC (s.drop 0) 1) := rfl
      go_enter Tryd.func10, Tryd.ntmps10
      go_wp2_with fail
      generalize hWW : w.alloc (.cells #[.int .i64 3, .int .i64 a, .int .i64 b, .slice ad s.length cap] 24) = W0
      have hB0 : Below w.heap.size w W0 := by rw [← hWW]; repeat (first | with_reducible assumption | with_reducible exact Below.refl _ _ | with_reducible apply Below.drew | (with_reducible refine Below.alloc ?_ (by first | omega | (simp only [World.size_alloc, size_setCell, size_drew, size_drewN]; omega) | (dsimp only; omega) | (simp only [World.size_alloc, size_setCell, size_drew, size_drewN]; dsimp only; omega)) _) | (with_reducible refine Below.setCell ?_ (by first | omega | (simp only [World.size_alloc, size_setCell, size_drew, size_drewN]; omega) | (dsimp only; omega) | (simp only [World.size_alloc, size_setCell, size_drew, size_drewN]; dsimp only; omega)) _) | (with_reducible apply below_drewN))
      have X0 : Blk W0 w.heap.size #[.int .i64 3, .int .i64 a, .int .i64 b, .slice ad s.length cap] 24 := by rw [← hWW]; exact Blk.new _ _ _
      have hs1 := hs.ext hB0
      clear hs hWW
      go_loopw [6, 7] (fun n i wr => ∃ (j : Nat) (r : Int), j ≤ s.length ∧ n = .int .i64 r ∧ i = .int .i64 j ∧ 1 ≤ r ∧ r ≤ 1048577 ∧ Below W0.heap.size W0 wr ∧ Hid (GT.prodC (s.drop 0) 1 = GT.prodC (s.drop j) r)) (fun _ i _ => s.length - (intOf i).toNat)
      case atStart => exact ⟨0, 1, by omega, rfl, rfl, by omega, by omega, Below.refl _ _, rfl⟩
      case round =>
        obtain ⟨j, r, hj, rfl, rfl, hr1, hr2, hb2, HE⟩ := hrel
        have hzr := hb2.size
        have hz0 := hB0.size
        have hBr : Below w.heap.size w wr := hB0.trans (hb2.mono hB0.size)
        have xr := X0.ext hb2
        have f0 := xr.cell 0
        have f1 := xr.cell 1
        have f2 := xr.cell 2
        have f3 := xr.cell 3
        simp only [List.getElem?_toArray, List.getElem?_cons_succ, List.getElem?_cons_zero] at f0 f1 f2 f3
        by_cases hlt : j < s.length
        · have p0 : (0 : Int) ≤ (j : Int) := by omega
          have p1 : (j : Int) < (s.length : Int) := by omega
          obtain ⟨bl, off, rfl, hlt1, hc⟩ := (hs1.ext hb2).at' (by omega)
          obtain ⟨k2, a2, b2, t2, ad2, cap2, c0, c1, c2, c3, hg2⟩ := hc j hlt
          clear hc hs1
          have hok2 := HK.out s[j] (List.getElem_mem hlt)
          have CK := Lib.hid (fun W hW => IH.out s[j] (List.getElem_mem hlt) (.agg #[.int .i64 k2, .int .i64 a2, .int .i64 b2, .slice ad2 t2 cap2]) W hok2 (hg2.ext hW))
          have HST := Lib.hid (GT.prodC_step s j hlt r)
          have hcb := GT.count_bd _ hok2
          clear hok2
          generalize GT.count s[j] = kn at *
          have hcb1 := hcb.1
          have hcb2 := hcb.2
          have hbd := GT.mul_bd hr1 hr2 hcb1 hcb2
          have hbd1 := hbd.1
          have hbd2 := hbd.2
          clear hbd
          clear hcb
          by_cases hcap : r * kn < 1048577
          · have hcap2 : ¬ (1048577 : Int) < r * kn := by omega
            have hcap3 : ¬ (1048577 : Int) ≤ r * kn := by omega
            have HST2 := HST.out
            rw [GT.capped_lt hcap] at HST2
            have HST3 := Lib.hid (HE.out.trans HST2)
            clear HST2 HST
            go_wp2_with fail
            refine (CK.out _ (by repeat (first | with_reducible assumption | with_reducible exact Below.refl _ _ | with_reducible apply Below.drew | (with_reducible refine Below.alloc ?_ (by first | omega | (simp only [World.size_alloc, size_setCell, size_drew, size_drewN]; omega) | (dsimp only; omega) | (simp only [World.size_alloc, size_setCell, size_drew, size_drewN]; dsimp only; omega)) _) | (with_reducible refine Below.setCell ?_ (by first | omega | (simp only [World.size_alloc, size_setCell, size_drew, size_drewN]; omega) | (dsimp only; omega) | (simp only [World.size_alloc, size_setCell, size_drew, size_drewN]; dsimp only; omega)) _) | (with_reducible apply below_drewN)))).mono ?_
            rintro e w3 ⟨rfl, hb3⟩
            have hB3 : Below W0.heap.size W0 w3 := Below.trans (by repeat (first | with_reducible assumption | with_reducible exact Below.refl _ _ | with_reducible apply Below.drew | (with_reducible refine Below.alloc ?_ (by first | omega | (simp only [World.size_alloc, size_setCell, size_drew, size_drewN]; omega) | (dsimp only; omega) | (simp only [World.size_alloc, size_setCell, size_drew, size_drewN]; dsimp only; omega)) _) | (with_reducible refine Below.setCell ?_ (by first | omega | (simp only [World.size_alloc, size_setCell, size_drew, size_drewN]; omega) | (dsimp only; omega) | (simp only [World.size_alloc, size_setCell, size_drew, size_drewN]; dsimp only; omega)) _) | (with_reducible apply below_drewN))) (hb3.mono (by first | omega | (simp only [World.size_alloc, size_setCell, size_drew, size_drewN]; omega) | (dsimp only; omega) | (simp only [World.size_alloc, size_setCell, size_drew, size_drewN]; dsimp only; omega)))
            clear hb3
            go_wp2_with fail
            exact ⟨⟨j + 1, r * kn, by omega, by go_num, by go_num, by omega, by omega, hB3, HST3⟩, by simp [intOf]; omega⟩
          · have hcap3 : (1048577 : Int) ≤ r * kn := by omega
            have HST2 := HST.out
            rw [GT.capped_ge hcap] at HST2
            have HST3 := Lib.hid (HE.out.trans HST2)
            clear HST2 HST
            go_wp2_with fail
            refine (CK.out _ (by repeat (first | with_reducible assumption | with_reducible exact Below.refl _ _ | with_reducible apply Below.drew | (with_reducible refine Below.alloc ?_ (by first | omega | (simp only [World.size_alloc, size_setCell, size_drew, size_drewN]; omega) | (dsimp only; omega) | (simp only [World.size_alloc, size_setCell, size_drew, size_drewN]; dsimp only; omega)) _) | (with_reducible refine Below.setCell ?_ (by first | omega | (simp only [World.size_alloc, size_setCell, size_drew, size_drewN]; omega) | (dsimp only; omega) | (simp only [World.size_alloc, size_setCell, size_drew, size_drewN]; dsimp only; omega)) _) | (with_reducible apply below_drewN)))).mono ?_
            rintro e w3 ⟨rfl, hb3⟩
            have hB3 : Below W0.heap.size W0 w3 := Below.trans (by repeat (first | with_reducible assumption | with_reducible exact Below.refl _ _ | with_reducible apply Below.drew | (with_reducible refine Below.alloc ?_ (by first | omega | (simp only [World.size_alloc, size_setCell, size_drew, size_drewN]; omega) | (dsimp only; omega) | (simp only [World.size_alloc, size_setCell, size_drew, size_drewN]; dsimp only; omega)) _) | (with_reducible refine Below.setCell ?_ (by first | omega | (simp only [World.size_alloc, size_setCell, size_drew, size_drewN]; omega) | (dsimp only; omega) | (simp only [World.size_alloc, size_setCell, size_drew, size_drewN]; dsimp only; omega)) _) | (with_reducible apply below_drewN))) (hb3.mono (by first | omega | (simp only [World.size_alloc, size_setCell, size_drew, size_drewN]; omega) | (dsimp only; omega) | (simp only [World.size_alloc, size_setCell, size_drew, size_drewN]; dsimp only; omega)))
            clear hb3
            go_wp2_with fail
            exact ⟨⟨j + 1, 1048577, by omega, by go_num, by go_num, by omega, by omega, hB3, HST3⟩, by simp [intOf]; omega⟩
        · have HF := HE.out
          rw [List.drop_eq_nil_of_le (by omega : s.length ≤ j)] at HF
          have HX := Lib.hid (HC.out.trans HF)
          have p1 : ¬ (j : Int) < (s.length : Int) := by omega
          clear HF
          go_wp2_with fail
          go_ret
          exact ⟨by rw [HX.out]; rfl, hBr⟩
    · obtain ⟨A, rfl⟩ := Int.eq_ofNat_of_zero_le h2
      have hs0 : 0 < s.length := by omega
      have hok2 := HK.out s[0] (List.getElem_mem hs0)
      have hcb := GT.count_bd _ hok2
      have HC : Hid (GT.count (.mk 4 (A : Int) b s) = GT.refK (GT.count s[0]) (A + 1) 0 1) := by
        show _ = _
        rw [GT.refK_start _ _ hcb.1 hcb.2]
        cases s with
        | nil => simp at h1
        | cons x s => rfl
      obtain ⟨bl, off, rfl, hlt1, hc⟩ := hs.at' hs0
      obtain ⟨k2, a2, b2, t2, ad2, cap2, c0, c1, c2, c3, hg2⟩ := hc 0 hs0
      simp only [Nat.zero_mul, Nat.add_zero] at c0 c1 c2 c3
      have CK := Lib.hid (fun W hW => IH.out s[0] (List.getElem_mem hs0) (.agg #[.int .i64 k2, .int .i64 a2, .int .i64 b2, .slice ad2 t2 cap2]) W hok2 (hg2.ext hW))
      generalize GT.count s[0] = kn at *
      have hcb1 := hcb.1
      have hcb2 := hcb.2
      clear hok2 hc hs hcb hg2 hs0
      have p0 : (0 : Int) < (s.length : Int) := by omega
      have H1 := Lib.hid h1
      clear h1
      go_enter Tryd.func10, Tryd.ntmps10
      go_wp2_with fail
      refine (CK.out _ (by repeat (first | with_reducible assumption | with_reducible exact Below.refl _ _ | with_reducible apply Below.drew | (with_reducible refine Below.alloc ?_ (by first | omega | (simp only [World.size_alloc, size_setCell, size_drew, size_drewN]; omega) | (dsimp only; omega) | (simp only [World.size_alloc, size_setCell, size_drew, size_drewN]; dsimp only; omega)) _) | (with_reducible refine Below.setCell ?_ (by first | omega | (simp only [World.size_alloc, size_setCell, size_drew, size_drewN]; omega) | (dsimp only; omega) | (simp only [World.size_alloc, size_setCell, size_drew, size_drewN]; dsimp only; omega)) _) | (with_reducible apply below_drewN)))).mono ?_
      rintro e w3 ⟨rfl, hb3⟩
      have hB3 : Below w.heap.size w w3 := Below.trans (by repeat (first | with_reducible assumption | with_reducible exact Below.refl _ _ | with_reducible apply Below.drew | (with_reducible refine Below.alloc ?_ (by first | omega | (simp only [World.size_alloc, size_setCell, size_drew, size_drewN]; omega) | (dsimp only; omega) | (simp only [World.size_alloc, size_setCell, size_drew, size_drewN]; dsimp only; omega)) _) | (with_reducible refine Below.setCell ?_ (by first | omega | (simp only [World.size_alloc, size_setCell, size_drew, size_drewN]; omega) | (dsimp only; omega) | (simp only [World.size_alloc, size_setCell, size_drew, size_drewN]; dsimp only; omega)) _) | (with_reducible apply below_drewN))) (hb3.mono (by first | omega | (simp only [World.size_alloc, size_setCell, size_drew, size_drewN]; omega) | (dsimp only; omega) | (simp only [World.size_alloc, size_setCell, size_drew, size_drewN]; dsimp only; omega)))
      have X0 : Blk w3 w.heap.size #[.int .i64 4, .int .i64 (A : Int), .int .i64 b, .slice (some ⟨bl, off, none⟩) s.length cap] 24 := (Blk.new w _ _).ext hb3
      clear hb3
      go_wp2_with fail
      have f0 := X0.cell 0
      have f1 := X0.cell 1
      have f2 := X0.cell 2
      have f3 := X0.cell 3
      simp only [List.getElem?_toArray, List.getElem?_cons_succ, List.getElem?_cons_zero] at f0 f1 f2 f3
      go_loopw [9, 10, 11] (fun n p i wr => ∃ (j : Nat) (r q : Int), j ≤ A + 1 ∧ n = .int .i64 r ∧ p = .int .i64 q ∧ i = .int .i64 j ∧ 0 ≤ r ∧ r ≤ 1048577 ∧ 1 ≤ q ∧ q ≤ 1048577 ∧ w3 = wr ∧ Hid (GT.refK kn (A + 1) 0 1 = GT.refK kn (A + 1 - j) r q)) (fun _ _ i _ => A + 1 - (intOf i).toNat)
      case atStart => exact ⟨0, 0, 1, by omega, rfl, rfl, rfl, by omega, by omega, by omega, by omega, rfl, rfl⟩
      case round =>
        obtain ⟨j, r, q, hj, rfl, rfl, rfl, hr1, hr2, hq1, hq2, rfl, HE⟩ := hrel
        by_cases hlt : j ≤ A
        · have hlt' : (j : Int) ≤ (A : Int) := by omega
          have hmb := GT.mul_bd hq1 hq2 hcb1 hcb2
          have hm1 := hmb.1
          have hm2 := hmb.2
          have HST : Hid (GT.refK kn (A + 1 - j) r q = GT.refK kn (A + 1 - (j + 1)) (GT.capped (r + q)) (GT.capped (q * kn))) := by
            have : A + 1 - j = (A + 1 - (j + 1)) + 1 := by omega
            show GT.refK kn (A + 1 - j) r q = _
            rw [this]; rfl
          clear hmb
          by_cases hx : r + q < 1048577
          · have hx2 : ¬ (1048577 : Int) < r + q := by omega
            have hx3 : ¬ (1048577 : Int) ≤ r + q := by omega
            have e1 := GT.capped_lt hx
            by_cases hy : q * kn < 1048577
            · have hy2 : ¬ (1048577 : Int) < q * kn := by omega
              have hy3 : ¬ (1048577 : Int) ≤ q * kn := by omega
              have e2 := GT.capped_lt hy
              have HX : Hid (GT.refK kn (A + 1) 0 1 = GT.refK kn (A + 1 - (j + 1)) (r + q) (q * kn)) := by have := HE.out.trans HST.out; rw [e1, e2] at this; exact this
              clear e1 e2
              go_wp2_with fail
              exact ⟨⟨j + 1, r + q, q * kn, by omega, by go_num, by go_num, by go_num, by omega, by omega, by omega, by omega, by trivial, HX⟩, by simp [intOf]; omega⟩
            · have hy3 : (1048577 : Int) ≤ q * kn := by omega
              have e2 := GT.capped_ge hy
              have HX : Hid (GT.refK kn (A + 1) 0 1 = GT.refK kn (A + 1 - (j + 1)) (r + q) 1048577) := by have := HE.out.trans HST.out; rw [e1, e2] at this; exact this
              clear e1 e2
              go_wp2_with fail
              exact ⟨⟨j + 1, r + q, 1048577, by omega, by go_num, by go_num, by go_num, by omega, by omega, by omega, by omega, by trivial, HX⟩, by simp [intOf]; omega⟩
          · have hx3 : (1048577 : Int) ≤ r + q := by omega
            have e1 := GT.capped_ge hx
            by_cases hy : q * kn < 1048577
            · have hy2 : ¬ (1048577 : Int) < q * kn := by omega
              have hy3 : ¬ (1048577 : Int) ≤ q * kn := by omega
              have e2 := GT.capped_lt hy
              have HX : Hid (GT.refK kn (A + 1) 0 1 = GT.refK kn (A + 1 - (j + 1)) 1048577 (q * kn)) := by have := HE.out.trans HST.out; rw [e1, e2] at this; exact this
              clear e1 e2
              go_wp2_with fail
              exact ⟨⟨j + 1, 1048577, q * kn, by omega, by go_num, by go_num, by go_num, by omega, by omega, by omega, by omega, by trivial, HX⟩, by simp [intOf]; omega⟩
            · have hy3 : (1048577 : Int) ≤ q * kn := by omega
              have e2 := GT.capped_ge hy
              have HX : Hid (GT.refK kn (A + 1) 0 1 = GT.refK kn (A + 1 - (j + 1)) 1048577 1048577) := by have := HE.out.trans HST.out; rw [e1, e2] at this; exact this
              clear e1 e2
              go_wp2_with fail
              exact ⟨⟨j + 1, 1048577, 1048577, by omega, by go_num, by go_num, by go_num, by omega, by omega, by omega, by omega, by trivial, HX⟩, by simp [intOf]; omega⟩
        · have hj' : A + 1 - j = 0 := by omega
          have HF := HE.out
          rw [hj'] at HF
          have HX := Lib.hid (HC.out.trans HF)
          have hlt' : ¬ (j : Int) ≤ (A : Int) := by omega
          clear HF hj'
          go_wp2_with fail
          go_ret
          exact ⟨by rw [HX.out]; rfl, hB3⟩
    · have HC : Hid (GT.count (.mk 5 a b s) = GT.sumC (s.drop 0) 0) := rfl
      go_enter Tryd.func10, Tryd.ntmps10
      go_wp2_with fail
      generalize hWW : w.alloc (.cells #[.int .i64 5, .int .i64 a, .int .i64 b, .slice ad s.length cap] 24) = W0
      have hB0 : Below w.heap.size w W0 := by rw [← hWW]; repeat (first | with_reducible assumption | with_reducible exact Below.refl _ _ | with_reducible apply Below.drew | (with_reducible refine Below.alloc ?_ (by first | omega | (simp only [World.size_alloc, size_setCell, size_drew, size_drewN]; omega) | (dsimp only; omega) | (simp only [World.size_alloc, size_setCell, size_drew, size_drewN]; dsimp only; omega)) _) | (with_reducible refine Below.setCell ?_ (by first | omega | (simp only [World.size_alloc, size_setCell, size_drew, size_drewN]; omega) | (dsimp only; omega) | (simp only [World.size_alloc, size_setCell, size_drew, size_drewN]; dsimp only; omega)) _) | (with_reducible apply below_drewN))
      have X0 : Blk W0 w.heap.size #[.int .i64 5, .int .i64 a, .int .i64 b, .slice ad s.length cap] 24 := by rw [← hWW]; exact Blk.new _ _ _
      have hs1 := hs.ext hB0
      clear hs hWW
      go_loopw [4, 5] (fun n i wr => ∃ (j : Nat) (r : Int), j ≤ s.length ∧ n = .int .i64 r ∧ i = .int .i64 j ∧ 0 ≤ r ∧ r ≤ 1048577 ∧ Below W0.heap.size W0 wr ∧ Hid (GT.sumC (s.drop 0) 0 = GT.sumC (s.drop j) r)) (fun _ i _ => s.length - (intOf i).toNat)
      case atStart => exact ⟨0, 0, by omega, rfl, rfl, by omega, by omega, Below.refl _ _, rfl⟩
      case round =>
        obtain ⟨j, r, hj, rfl, rfl, hr1, hr2, hb2, HE⟩ := hrel
        have hzr := hb2.size
        have hz0 := hB0.size
        have hBr : Below w.heap.size w wr := hB0.trans (hb2.mono hB0.size)
        have xr := X0.ext hb2
        have f0 := xr.cell 0
        have f1 := xr.cell 1
        have f2 := xr.cell 2
        have f3 := xr.cell 3
        simp only [List.getElem?_toArray, List.getElem?_cons_succ, List.getElem?_cons_zero] at f0 f1 f2 f3
        by_cases hlt : j < s.length
        · have p0 : (0 : Int) ≤ (j : Int) := by omega
          have p1 : (j : Int) < (s.length : Int) := by omega
          obtain ⟨bl, off, rfl, hlt1, hc⟩ := (hs1.ext hb2).at' (by omega)
          obtain ⟨k2, a2, b2, t2, ad2, cap2, c0, c1, c2, c3, hg2⟩ := hc j hlt
          clear hc hs1
          have hok2 := HK.out s[j] (List.getElem_mem hlt)
          have CK := Lib.hid (fun W hW => IH.out s[j] (List.getElem_mem hlt) (.agg #[.int .i64 k2, .int .i64 a2, .int .i64 b2, .slice ad2 t2 cap2]) W hok2 (hg2.ext hW))
          have HST := Lib.hid (GT.sumC_step s j hlt r)
          have hcb := GT.count_bd _ hok2
          clear hok2
          generalize GT.count s[j] = kn at *
          have hcb1 := hcb.1
          have hcb2 := hcb.2
          have hbd1 : 1 ≤ r + kn := by omega
          have hbd2 : r + kn ≤ 2097154 := by omega
          clear hcb
          by_cases hcap : r + kn < 1048577
          · have hcap2 : ¬ (1048577 : Int) < r + kn := by omega
            have hcap3 : ¬ (1048577 : Int) ≤ r + kn := by omega
            have HST2 := HST.out
            rw [GT.capped_lt hcap] at HST2
            have HST3 := Lib.hid (HE.out.trans HST2)
            clear HST2 HST
            go_wp2_with fail
            refine (CK.out _ (by repeat (first | with_reducible assumption | with_reducible exact Below.refl _ _ | with_reducible apply Below.drew | (with_reducible refine Below.alloc ?_ (by first | omega | (simp only [World.size_alloc, size_setCell, size_drew, size_drewN]; omega) | (dsimp only; omega) | (simp only [World.size_alloc, size_setCell, size_drew, size_drewN]; dsimp only; omega)) _) | (with_reducible refine Below.setCell ?_ (by first | omega | (simp only [World.size_alloc, size_setCell, size_drew, size_drewN]; omega) | (dsimp only; omega) | (simp only [World.size_alloc, size_setCell, size_drew, size_drewN]; dsimp only; omega)) _) | (with_reducible apply below_drewN)))).mono ?_
            rintro e w3 ⟨rfl, hb3⟩
            have hB3 : Below W0.heap.size W0 w3 := Below.trans (by repeat (first | with_reducible assumption | with_reducible exact Below.refl _ _ | with_reducible apply Below.drew | (with_reducible refine Below.alloc ?_ (by first | omega | (simp only [World.size_alloc, size_setCell, size_drew, size_drewN]; omega) | (dsimp only; omega) | (simp only [World.size_alloc, size_setCell, size_drew, size_drewN]; dsimp only; omega)) _) | (with_reducible refine Below.setCell ?_ (by first | omega | (simp only [World.size_alloc, size_setCell, size_drew, size_drewN]; omega) | (dsimp only; omega) | (simp only [World.size_alloc, size_setCell, size_drew, size_drewN]; dsimp only; omega)) _) | (with_reducible apply below_drewN))) (hb3.mono (by first | omega | (simp only [World.size_alloc, size_setCell, size_drew, size_drewN]; omega) | (dsimp only; omega) | (simp only [World.size_alloc, size_setCell, size_drew, size_drewN]; dsimp only; omega)))
            clear hb3
            go_wp2_with fail
            exact ⟨⟨j + 1, r + kn, by omega, by go_num, by go_num, by omega, by omega, hB3, HST3⟩, by simp [intOf]; omega⟩
          · have hcap3 : (1048577 : Int) ≤ r + kn := by omega
            have HST2 := HST.out
            rw [GT.capped_ge hcap] at HST2
            have HST3 := Lib.hid (HE.out.trans HST2)
            clear HST2 HST
            go_wp2_with fail
            refine (CK.out _ (by repeat (first | with_reducible assumption | with_reducible exact Below.refl _ _ | with_reducible apply Below.drew | (with_reducible refine Below.alloc ?_ (by first | omega | (simp only [World.size_alloc, size_setCell, size_drew, size_drewN]; omega) | (dsimp only; omega) | (simp only [World.size_alloc, size_setCell, size_drew, size_drewN]; dsimp only; omega)) _) | (with_reducible refine Below.setCell ?_ (by first | omega | (simp only [World.size_alloc, size_setCell, size_drew, size_drewN]; omega) | (dsimp only; omega) | (simp only [World.size_alloc, size_setCell, size_drew, size_drewN]; dsimp only; omega)) _) | (with_reducible apply below_drewN)))).mono ?_
            rintro e w3 ⟨rfl, hb3⟩
            have hB3 : Below W0.heap.size W0 w3 := Below.trans (by repeat (first | with_reducible assumption | with_reducible exact Below.refl _ _ | with_reducible apply Below.drew | (with_reducible refine Below.alloc ?_ (by first | omega | (simp only [World.size_alloc, size_setCell, size_drew, size_drewN]; omega) | (dsimp only; omega) | (simp only [World.size_alloc, size_setCell, size_drew, size_drewN]; dsimp only; omega)) _) | (with_reducible refine Below.setCell ?_ (by first | omega | (simp only [World.size_alloc, size_setCell, size_drew, size_drewN]; omega) | (dsimp only; omega) | (simp only [World.size_alloc, size_setCell, size_drew, size_drewN]; dsimp only; omega)) _) | (with_reducible apply below_drewN))) (hb3.mono (by first | omega | (simp only [World.size_alloc, size_setCell, size_drew, size_drewN]; omega) | (dsimp only; omega) | (simp only [World.size_alloc, size_setCell, size_drew, size_drewN]; dsimp only; omega)))
            clear hb3
            go_wp2_with fail
            exact ⟨⟨j + 1, 1048577, by omega, by go_num, by go_num, by omega, by omega, hB3, HST3⟩, by simp [intOf]; omega⟩
        · have HF := HE.out
          rw [List.drop_eq_nil_of_le (by omega : s.length ≤ j)] at HF
          have HX := Lib.hid (HC.out.trans HF)
          have p1 : ¬ (j : Int) < (s.length : Int) := by omega
          clear HF
          go_wp2_with fail
          go_ret
          exact ⟨by rw [HX.out]; rfl, hBr⟩
end Go.Proofs.YtbfnlaplhgknaaaDoor
