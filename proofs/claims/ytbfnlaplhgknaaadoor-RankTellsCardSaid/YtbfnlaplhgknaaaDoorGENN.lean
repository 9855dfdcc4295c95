/- The walks through a generator's count. -/
import Derived.Test.YtbfnlaplhgknaaaDoorGENC
import Derived.Deep.DeepCutAuto
namespace Go.Proofs.YtbfnlaplhgknaaaDoor
set_option maxRecDepth 100000
open Go.RowKit
set_option linter.unusedSimpArgs false
set_option linter.unusedVariables false
theorem capped_any (n : Int) (hn : In64 n) (w : World) : Calls Tryd.prog 58 #[.int .i64 n] w fun e w' => e = .returned (.int .i64 (GT.capped n)) ∧ w = w' := by
  go_enter Tryd.func58, Tryd.ntmps58
  go_wp2_with fail
  all_goals (go_ret; refine ⟨?_, rfl⟩; unfold GT.capped; simp; try omega)
set_option maxHeartbeats 2000000 in
theorem count_any (g : GT) : ∀ (v : Value) (w : World), GT.eachErr g = 0 → GenAt w v g → Calls Tryd.prog 36 #[v] w fun e w' => e = .returned (.int .i64 (GT.count g)) ∧ Below w.heap.size w w' := by
  induction g using GT.ind with
  | h k a b s ih =>
    intro v w hok hg
    obtain ⟨k', a', b', s', ad, cap, hmk, rfl, hk, ha, hb, hl, hm, hs⟩ := hg.form
    obtain ⟨rfl, rfl, rfl, rfl⟩ := GT.mk.inj hmk
    clear hg hmk
    have IH := Lib.hid ih
    clear ih
    have HK := Lib.hid (GT.ok_kids hok)
    have HBD := Lib.hid (GT.count_bd _ hok)
    have hW0 : ∀ W0, W0 = w.alloc (.cells #[.int .i64 k, .int .i64 a, .int .i64 b, .slice ad s.length cap] 24) → Below w.heap.size w W0 := by intro W0 h; rw [h]; repeat (first | with_reducible assumption | with_reducible exact Below.refl _ _ | with_reducible apply Below.drew | (with_reducible refine Below.alloc ?_ (by first | omega | (simp only [World.size_alloc, size_setCell, size_drew, size_drewN]; omega) | (dsimp only; omega) | (simp only [World.size_alloc, size_setCell, size_drew, size_drewN]; dsimp only; omega)) _) | (with_reducible refine Below.setCell ?_ (by first | omega | (simp only [World.size_alloc, size_setCell, size_drew, size_drewN]; omega) | (dsimp only; omega) | (simp only [World.size_alloc, size_setCell, size_drew, size_drewN]; dsimp only; omega)) _) | (with_reducible apply below_drewN))
    rcases GT.one_cases (GT.ok_one hok) with ⟨rfl, _⟩ | ⟨rfl, _, h0, h0', h1, h2⟩ | rfl | ⟨rfl, h1, h2, h3⟩ | ⟨rfl, h1⟩
    · clear hW0
      go_enter Tryd.func36, Tryd.ntmps36
      go_wp2_with fail
      go_ret
      exact ⟨rfl, by repeat (first | with_reducible assumption | with_reducible exact Below.refl _ _ | with_reducible apply Below.drew | (with_reducible refine Below.alloc ?_ (by first | omega | (simp only [World.size_alloc, size_setCell, size_drew, size_drewN]; omega) | (dsimp only; omega) | (simp only [World.size_alloc, size_setCell, size_drew, size_drewN]; dsimp only; omega)) _) | (with_reducible refine Below.setCell ?_ (by first | omega | (simp only [World.size_alloc, size_setCell, size_drew, size_drewN]; omega) | (dsimp only; omega) | (simp only [World.size_alloc, size_setCell, size_drew, size_drewN]; dsimp only; omega)) _) | (with_reducible apply below_drewN))⟩
    · clear hW0
      go_enter Tryd.func36, Tryd.ntmps36
      go_wp2_with fail
      go_ret
      exact ⟨rfl, by repeat (first | with_reducible assumption | with_reducible exact Below.refl _ _ | with_reducible apply Below.drew | (with_reducible refine Below.alloc ?_ (by first | omega | (simp only [World.size_alloc, size_setCell, size_drew, size_drewN]; omega) | (dsimp only; omega) | (simp only [World.size_alloc, size_setCell, size_drew, size_drewN]; dsimp only; omega)) _) | (with_reducible refine Below.setCell ?_ (by first | omega | (simp only [World.size_alloc, size_setCell, size_drew, size_drewN]; omega) | (dsimp only; omega) | (simp only [World.size_alloc, size_setCell, size_drew, size_drewN]; dsimp only; omega)) _) | (with_reducible apply below_drewN))⟩
    · have HC : Hid (GT.count (.mk 3 a b s) = GT.prodC (s.drop 0) 1) := rfl
      go_enter Tryd.func36, Tryd.ntmps36
      go_wp2_with fail
      generalize hWW : w.alloc (.cells #[.int .i64 3, .int .i64 a, .int .i64 b, .slice ad s.length cap] 24) = W0
      have hB0 := hW0 W0 hWW.symm
      have hs1 := hs.ext hB0
      clear hs hW0 hWW
      go_loopw [3, 25] (fun n i wr => ∃ (j : Nat) (r : Int), j ≤ s.length ∧ n = .int .i64 r ∧ i = .int .i64 j ∧ 1 ≤ r ∧ r ≤ 1048577 ∧ Below W0.heap.size W0 wr ∧ Hid (GT.prodC (s.drop 0) 1 = GT.prodC (s.drop j) r)) (fun _ i _ => s.length - (intOf i).toNat)
      case atStart => exact ⟨0, 1, by omega, rfl, rfl, by omega, by omega, Below.refl _ _, rfl⟩
      case round =>
        obtain ⟨j, r, hj, rfl, rfl, hr1, hr2, hb2, HE⟩ := hrel
        have hzr := hb2.size
        have hz0 := hB0.size
        have hBr : Below w.heap.size w wr := hB0.trans (hb2.mono hB0.size)
        by_cases hlt : j < s.length
        · have p0 : (0 : Int) ≤ (j : Int) := by omega
          have p1 : (j : Int) < (s.length : Int) := by omega
          obtain ⟨bl, off, rfl, hlt1, hc⟩ := (hs1.ext hb2).at' (by omega)
          obtain ⟨k2, a2, b2, t2, ad2, cap2, c0, c1, c2, c3, hg2⟩ := hc j hlt
          clear hc hs1
          have hok2 := HK.out s[j] (List.getElem_mem hlt)
          have CK := Lib.hid (fun W hW => IH.out s[j] (List.getElem_mem hlt) (.agg #[.int .i64 k2, .int .i64 a2, .int .i64 b2, .slice ad2 t2 cap2]) W hok2 (hg2.ext hW))
          have HST := Lib.hid (GT.prodC_step s j hlt r)
          have hcb := GT.count_bd _ hok2
          clear hok2
          generalize GT.count s[j] = kn at *
          have hmb := GT.mul_bd hr1 hr2 hcb.1 hcb.2
          have hcc := GT.capped_bd hmb.1
          have hm1 := hmb.1
          have hm2 := hmb.2
          clear hmb
          have CC := Lib.hid (capped_any (r * kn) ⟨by omega, by omega⟩)
          go_wp2_with fail
          refine (CK.out _ (by repeat (first | with_reducible assumption | with_reducible exact Below.refl _ _ | with_reducible apply Below.drew | (with_reducible refine Below.alloc ?_ (by first | omega | (simp only [World.size_alloc, size_setCell, size_drew, size_drewN]; omega) | (dsimp only; omega) | (simp only [World.size_alloc, size_setCell, size_drew, size_drewN]; dsimp only; omega)) _) | (with_reducible refine Below.setCell ?_ (by first | omega | (simp only [World.size_alloc, size_setCell, size_drew, size_drewN]; omega) | (dsimp only; omega) | (simp only [World.size_alloc, size_setCell, size_drew, size_drewN]; dsimp only; omega)) _) | (with_reducible apply below_drewN)))).mono ?_
          rintro e w3 ⟨rfl, hb3⟩
          have hB3 : Below W0.heap.size W0 w3 := Below.trans (by repeat (first | with_reducible assumption | with_reducible exact Below.refl _ _ | with_reducible apply Below.drew | (with_reducible refine Below.alloc ?_ (by first | omega | (simp only [World.size_alloc, size_setCell, size_drew, size_drewN]; omega) | (dsimp only; omega) | (simp only [World.size_alloc, size_setCell, size_drew, size_drewN]; dsimp only; omega)) _) | (with_reducible refine Below.setCell ?_ (by first | omega | (simp only [World.size_alloc, size_setCell, size_drew, size_drewN]; omega) | (dsimp only; omega) | (simp only [World.size_alloc, size_setCell, size_drew, size_drewN]; dsimp only; omega)) _) | (with_reducible apply below_drewN))) (hb3.mono (by first | omega | (simp only [World.size_alloc, size_setCell, size_drew, size_drewN]; omega) | (dsimp only; omega) | (simp only [World.size_alloc, size_setCell, size_drew, size_drewN]; dsimp only; omega)))
          clear hb3
          go_wp2_with fail
          refine (CC.out _).mono ?_
          rintro e w4 ⟨rfl, rfl⟩
          have hcc1 := hcc.1
          have hcc2 := hcc.2
          clear hcc
          have HST2 := HST.out
          have HSTH := Lib.hid HST2
          clear HST2 HST
          generalize GT.capped (r * kn) = rn at *
          go_wp2_with fail
          exact ⟨⟨j + 1, rn, by omega, rfl, by go_num, hcc1, hcc2, hB3, HE.out.trans HSTH.out⟩, by simp [intOf]; omega⟩
        · have HF := HE.out
          rw [List.drop_eq_nil_of_le (by omega : s.length ≤ j)] at HF
          have HX := Lib.hid (HC.out.trans HF)
          clear HF
          go_wp2_with fail
          go_ret
          exact ⟨by rw [HX.out]; rfl, hBr⟩
    · obtain ⟨A, rfl⟩ := Int.eq_ofNat_of_zero_le h2
      have hs0 : 0 < s.length := by omega
      have hok2 := HK.out s[0] (List.getElem_mem hs0)
      have HC : Hid (GT.count (.mk 4 (A : Int) b s) = GT.manyK (GT.count s[0]) A 1 1) := by
        cases s with
        | nil => simp at h1
        | cons x s => rfl
      obtain ⟨bl, off, rfl, hlt1, hc⟩ := hs.at' hs0
      obtain ⟨k2, a2, b2, t2, ad2, cap2, c0, c1, c2, c3, hg2⟩ := hc 0 hs0
      simp only [Nat.zero_mul, Nat.add_zero] at c0 c1 c2 c3
      have CK := Lib.hid (fun W hW => IH.out s[0] (List.getElem_mem hs0) (.agg #[.int .i64 k2, .int .i64 a2, .int .i64 b2, .slice ad2 t2 cap2]) W hok2 (hg2.ext hW))
      have hcb := GT.count_bd _ hok2
      generalize GT.count s[0] = kn at *
      have hcb1 := hcb.1
      have hcb2 := hcb.2
      clear hok2 hc hs hcb hg2 hs0
      have p0 : (0 : Int) < (s.length : Int) := by omega
      have H1 := Lib.hid h1
      clear h1
      go_enter Tryd.func36, Tryd.ntmps36
      go_wp2_with fail
      refine (CK.out _ (by repeat (first | with_reducible assumption | with_reducible exact Below.refl _ _ | with_reducible apply Below.drew | (with_reducible refine Below.alloc ?_ (by first | omega | (simp only [World.size_alloc, size_setCell, size_drew, size_drewN]; omega) | (dsimp only; omega) | (simp only [World.size_alloc, size_setCell, size_drew, size_drewN]; dsimp only; omega)) _) | (with_reducible refine Below.setCell ?_ (by first | omega | (simp only [World.size_alloc, size_setCell, size_drew, size_drewN]; omega) | (dsimp only; omega) | (simp only [World.size_alloc, size_setCell, size_drew, size_drewN]; dsimp only; omega)) _) | (with_reducible apply below_drewN)))).mono ?_
      rintro e w3 ⟨rfl, hb3⟩
      have hB3 : Below w.heap.size w w3 := Below.trans (by repeat (first | with_reducible assumption | with_reducible exact Below.refl _ _ | with_reducible apply Below.drew | (with_reducible refine Below.alloc ?_ (by first | omega | (simp only [World.size_alloc, size_setCell, size_drew, size_drewN]; omega) | (dsimp only; omega) | (simp only [World.size_alloc, size_setCell, size_drew, size_drewN]; dsimp only; omega)) _) | (with_reducible refine Below.setCell ?_ (by first | omega | (simp only [World.size_alloc, size_setCell, size_drew, size_drewN]; omega) | (dsimp only; omega) | (simp only [World.size_alloc, size_setCell, size_drew, size_drewN]; dsimp only; omega)) _) | (with_reducible apply below_drewN))) (hb3.mono (by first | omega | (simp only [World.size_alloc, size_setCell, size_drew, size_drewN]; omega) | (dsimp only; omega) | (simp only [World.size_alloc, size_setCell, size_drew, size_drewN]; dsimp only; omega)))
      have q1 : w3.cell? ⟨w.heap.size, 1, none⟩ = some (.int .i64 A) := (Blk.new w _ _).ext hb3 |>.cell 1
      clear hb3 hW0
      go_wp2_with fail
      go_loopw [3, 7, 44] (fun n p i wr => ∃ (j : Nat) (r q : Int), j ≤ A ∧ n = .int .i64 r ∧ p = .int .i64 q ∧ i = .int .i64 j ∧ 1 ≤ r ∧ r ≤ 1048577 ∧ 1 ≤ q ∧ q ≤ 1048577 ∧ wr = w3 ∧ Hid (GT.manyK kn A 1 1 = GT.manyK kn (A - j) r q)) (fun _ _ i _ => A - (intOf i).toNat)
      case atStart => exact ⟨0, 1, 1, by omega, rfl, rfl, rfl, by omega, by omega, by omega, by omega, rfl, rfl⟩
      case round =>
        obtain ⟨j, r, q, hj, rfl, rfl, rfl, hr1, hr2, hq1, hq2, rfl, HE⟩ := hrel
        by_cases hlt : j < A
        · have hlt' : (j : Int) < (A : Int) := by omega
          have hmb := GT.mul_bd hq1 hq2 hcb1 hcb2
          have hcc := GT.capped_bd hmb.1
          have hm1 := hmb.1
          have hm2 := hmb.2
          have hcc2 := GT.capped_bd0 (n := r + GT.capped (q * kn)) (by omega)
          have CC := Lib.hid (capped_any (q * kn) ⟨by omega, by omega⟩)
          have CC2 := Lib.hid (capped_any (r + GT.capped (q * kn)) ⟨by omega, by omega⟩)
          have HST : Hid (GT.manyK kn (A - j) r q = GT.manyK kn (A - (j + 1)) (GT.capped (r + GT.capped (q * kn))) (GT.capped (q * kn))) := by
            have : A - j = (A - (j + 1)) + 1 := by omega
            show GT.manyK kn (A - j) r q = _
            rw [this]; rfl
          have hq1' := hcc.1
          have hq2' := hcc.2
          clear hmb hcc
          generalize GT.capped (q * kn) = q' at *
          have hr2' := hcc2.2
          have hr1' : 1 ≤ GT.capped (r + q') := (GT.capped_bd (by omega)).1
          clear hcc2
          generalize GT.capped (r + q') = r' at *
          go_wp2_with fail
          refine (CC.out _).mono ?_
          rintro e w4 ⟨rfl, rfl⟩
          go_wp2_with fail
          refine (CC2.out _).mono ?_
          rintro e w4 ⟨rfl, rfl⟩
          go_wp2_with fail
          exact ⟨⟨j + 1, r', q', by omega, rfl, rfl, by go_num, hr1', hr2', hq1', hq2', by trivial, HE.out.trans HST.out⟩, by simp [intOf]; omega⟩
        · have hj' : A - j = 0 := by omega
          have HF := HE.out
          rw [hj'] at HF
          have HX := Lib.hid (HC.out.trans HF)
          have hlt' : ¬ (j : Int) < (A : Int) := by omega
          clear HF hj'
          go_wp2_with fail
          go_ret
          exact ⟨by rw [HX.out]; rfl, hB3⟩
    · have HC : Hid (GT.count (.mk 5 a b s) = GT.sumC (s.drop 0) 0) := rfl
      go_enter Tryd.func36, Tryd.ntmps36
      go_wp2_with fail
      generalize hWW : w.alloc (.cells #[.int .i64 5, .int .i64 a, .int .i64 b, .slice ad s.length cap] 24) = W0
      have hB0 := hW0 W0 hWW.symm
      have hs1 := hs.ext hB0
      clear hs hW0 hWW
      go_loopw [3, 60] (fun n i wr => ∃ (j : Nat) (r : Int), j ≤ s.length ∧ n = .int .i64 r ∧ i = .int .i64 j ∧ 0 ≤ r ∧ r ≤ 1048577 ∧ Below W0.heap.size W0 wr ∧ Hid (GT.sumC (s.drop 0) 0 = GT.sumC (s.drop j) r)) (fun _ i _ => s.length - (intOf i).toNat)
      case atStart => exact ⟨0, 0, by omega, rfl, rfl, by omega, by omega, Below.refl _ _, rfl⟩
      case round =>
        obtain ⟨j, r, hj, rfl, rfl, hr1, hr2, hb2, HE⟩ := hrel
        have hzr := hb2.size
        have hz0 := hB0.size
        have hBr : Below w.heap.size w wr := hB0.trans (hb2.mono hB0.size)
        by_cases hlt : j < s.length
        · have p0 : (0 : Int) ≤ (j : Int) := by omega
          have p1 : (j : Int) < (s.length : Int) := by omega
          obtain ⟨bl, off, rfl, hlt1, hc⟩ := (hs1.ext hb2).at' (by omega)
          obtain ⟨k2, a2, b2, t2, ad2, cap2, c0, c1, c2, c3, hg2⟩ := hc j hlt
          clear hc hs1
          have hok2 := HK.out s[j] (List.getElem_mem hlt)
          have CK := Lib.hid (fun W hW => IH.out s[j] (List.getElem_mem hlt) (.agg #[.int .i64 k2, .int .i64 a2, .int .i64 b2, .slice ad2 t2 cap2]) W hok2 (hg2.ext hW))
          have HST := Lib.hid (GT.sumC_step s j hlt r)
          have hcb := GT.count_bd _ hok2
          clear hok2
          generalize GT.count s[j] = kn at *
          have hcb1 := hcb.1
          have hcb2 := hcb.2
          have hcc := GT.capped_bd0 (n := r + kn) (by omega)
          clear hcb
          have CC := Lib.hid (capped_any (r + kn) ⟨by omega, by omega⟩)
          go_wp2_with fail
          refine (CK.out _ (by repeat (first | with_reducible assumption | with_reducible exact Below.refl _ _ | with_reducible apply Below.drew | (with_reducible refine Below.alloc ?_ (by first | omega | (simp only [World.size_alloc, size_setCell, size_drew, size_drewN]; omega) | (dsimp only; omega) | (simp only [World.size_alloc, size_setCell, size_drew, size_drewN]; dsimp only; omega)) _) | (with_reducible refine Below.setCell ?_ (by first | omega | (simp only [World.size_alloc, size_setCell, size_drew, size_drewN]; omega) | (dsimp only; omega) | (simp only [World.size_alloc, size_setCell, size_drew, size_drewN]; dsimp only; omega)) _) | (with_reducible apply below_drewN)))).mono ?_
          rintro e w3 ⟨rfl, hb3⟩
          have hB3 : Below W0.heap.size W0 w3 := Below.trans (by repeat (first | with_reducible assumption | with_reducible exact Below.refl _ _ | with_reducible apply Below.drew | (with_reducible refine Below.alloc ?_ (by first | omega | (simp only [World.size_alloc, size_setCell, size_drew, size_drewN]; omega) | (dsimp only; omega) | (simp only [World.size_alloc, size_setCell, size_drew, size_drewN]; dsimp only; omega)) _) | (with_reducible refine Below.setCell ?_ (by first | omega | (simp only [World.size_alloc, size_setCell, size_drew, size_drewN]; omega) | (dsimp only; omega) | (simp only [World.size_alloc, size_setCell, size_drew, size_drewN]; dsimp only; omega)) _) | (with_reducible apply below_drewN))) (hb3.mono (by first | omega | (simp only [World.size_alloc, size_setCell, size_drew, size_drewN]; omega) | (dsimp only; omega) | (simp only [World.size_alloc, size_setCell, size_drew, size_drewN]; dsimp only; omega)))
          clear hb3
          go_wp2_with fail
          refine (CC.out _).mono ?_
          rintro e w4 ⟨rfl, rfl⟩
          have hcc1 := hcc.1
          have hcc2 := hcc.2
          clear hcc
          have HST2 := HST.out
          have HSTH := Lib.hid HST2
          clear HST2 HST
          generalize GT.capped (r + kn) = rn at *
          go_wp2_with fail
          exact ⟨⟨j + 1, rn, by omega, rfl, by go_num, hcc1, hcc2, hB3, HE.out.trans HSTH.out⟩, by simp [intOf]; omega⟩
        · have HF := HE.out
          rw [List.drop_eq_nil_of_le (by omega : s.length ≤ j)] at HF
          have HX := Lib.hid (HC.out.trans HF)
          clear HF
          go_wp2_with fail
          go_ret
          exact ⟨by rw [HX.out]; rfl, hBr⟩
set_option maxHeartbeats 1000000 in
theorem gen_count_any (g : GT) (v : Value) (w : World) (hg : GenAt w v g) : Calls Tryd.prog 14 #[v] w fun e w' => e = .returned (.tuple #[.int .i64 (GT.countR g).1, errV (GT.countR g).2]) ∧ Below w.heap.size w w' := by
  obtain ⟨k, a, b, s, ad, cap, hmk, rfl, hk, ha, hb, hl, hm, hs⟩ := hg.form
  have C1 := Lib.hid (fun W (h : Below w.heap.size w W) => check_any g (.agg #[.int .i64 k, .int .i64 a, .int .i64 b, .slice ad s.length cap]) W (hg.ext h))
  have C2 := Lib.hid (fun (hok : GT.check g = 0) W (h : Below w.heap.size w W) => count_any g (.agg #[.int .i64 k, .int .i64 a, .int .i64 b, .slice ad s.length cap]) W (GT.check_ok hok) (hg.ext h))
  have HBD := Lib.hid (fun (hok : GT.check g = 0) => GT.count_bd g (GT.check_ok hok))
  have HR : Hid (GT.countR g = if GT.check g = 0 then (if 1048576 < GT.count g then (0, 4) else (GT.count g, 0)) else (0, GT.check g)) := rfl
  clear hg hmk hs hk ha hb hl hm
  generalize GT.countR g = r at *
  generalize GT.check g = ce at *
  generalize GT.count g = cn at *
  by_cases h0 : ce = 0
  · subst h0
    have HC2 := Lib.hid (C2.out rfl)
    have hbd := HBD.out rfl
    have hbd1 := hbd.1
    have hbd2 := hbd.2
    clear hbd HBD C2
    simp only [errV_zero] at C1
    by_cases h1 : 1048576 < cn
    · have hr : r = (0, 4) := by have := HR.out; simpa [h1] using this
      clear HR
      subst hr
      go_enter Tryd.func14, Tryd.ntmps14
      go_wp2_with fail
      refine (C1.out _ (by repeat (first | with_reducible assumption | with_reducible exact Below.refl _ _ | with_reducible apply Below.drew | (with_reducible refine Below.alloc ?_ (by first | omega | (simp only [World.size_alloc, size_setCell, size_drew, size_drewN]; omega) | (dsimp only; omega) | (simp only [World.size_alloc, size_setCell, size_drew, size_drewN]; dsimp only; omega)) _) | (with_reducible refine Below.setCell ?_ (by first | omega | (simp only [World.size_alloc, size_setCell, size_drew, size_drewN]; omega) | (dsimp only; omega) | (simp only [World.size_alloc, size_setCell, size_drew, size_drewN]; dsimp only; omega)) _) | (with_reducible apply below_drewN)))).mono ?_
      rintro e w1 ⟨rfl, hb1⟩
      have hB1 : Below w.heap.size w w1 := Below.trans (by repeat (first | with_reducible assumption | with_reducible exact Below.refl _ _ | with_reducible apply Below.drew | (with_reducible refine Below.alloc ?_ (by first | omega | (simp only [World.size_alloc, size_setCell, size_drew, size_drewN]; omega) | (dsimp only; omega) | (simp only [World.size_alloc, size_setCell, size_drew, size_drewN]; dsimp only; omega)) _) | (with_reducible refine Below.setCell ?_ (by first | omega | (simp only [World.size_alloc, size_setCell, size_drew, size_drewN]; omega) | (dsimp only; omega) | (simp only [World.size_alloc, size_setCell, size_drew, size_drewN]; dsimp only; omega)) _) | (with_reducible apply below_drewN))) (hb1.mono (by first | omega | (simp only [World.size_alloc, size_setCell, size_drew, size_drewN]; omega) | (dsimp only; omega) | (simp only [World.size_alloc, size_setCell, size_drew, size_drewN]; dsimp only; omega)))
      obtain ⟨hc1, hf1, hz1⟩ := bcell hb1
      try simp only [World.size_alloc, size_setCell, size_drew, size_drewN] at hz1
      clear hb1
      have y1_0 : w.heap.size < w1.heap.size := by omega
      go_wp2_with fail
      refine (HC2.out _ (by repeat (first | with_reducible assumption | with_reducible exact Below.refl _ _ | with_reducible apply Below.drew | (with_reducible refine Below.alloc ?_ (by first | omega | (simp only [World.size_alloc, size_setCell, size_drew, size_drewN]; omega) | (dsimp only; omega) | (simp only [World.size_alloc, size_setCell, size_drew, size_drewN]; dsimp only; omega)) _) | (with_reducible refine Below.setCell ?_ (by first | omega | (simp only [World.size_alloc, size_setCell, size_drew, size_drewN]; omega) | (dsimp only; omega) | (simp only [World.size_alloc, size_setCell, size_drew, size_drewN]; dsimp only; omega)) _) | (with_reducible apply below_drewN)))).mono ?_
      rintro e w2 ⟨rfl, hb2⟩
      have hB2 : Below w.heap.size w w2 := Below.trans (by repeat (first | with_reducible assumption | with_reducible exact Below.refl _ _ | with_reducible apply Below.drew | (with_reducible refine Below.alloc ?_ (by first | omega | (simp only [World.size_alloc, size_setCell, size_drew, size_drewN]; omega) | (dsimp only; omega) | (simp only [World.size_alloc, size_setCell, size_drew, size_drewN]; dsimp only; omega)) _) | (with_reducible refine Below.setCell ?_ (by first | omega | (simp only [World.size_alloc, size_setCell, size_drew, size_drewN]; omega) | (dsimp only; omega) | (simp only [World.size_alloc, size_setCell, size_drew, size_drewN]; dsimp only; omega)) _) | (with_reducible apply below_drewN))) (hb2.mono (by first | omega | (simp only [World.size_alloc, size_setCell, size_drew, size_drewN]; omega) | (dsimp only; omega) | (simp only [World.size_alloc, size_setCell, size_drew, size_drewN]; dsimp only; omega)))
      obtain ⟨hc2, hf2, hz2⟩ := bcell hb2
      try simp only [World.size_alloc, size_setCell, size_drew, size_drewN] at hz2
      clear hb2
      have y2_0 : w.heap.size < w2.heap.size := by omega
      go_wp2_with fail
      go_ret2
      exact ⟨rfl, by repeat (first | with_reducible assumption | with_reducible exact Below.refl _ _ | with_reducible apply Below.drew | (with_reducible refine Below.alloc ?_ (by first | omega | (simp only [World.size_alloc, size_setCell, size_drew, size_drewN]; omega) | (dsimp only; omega) | (simp only [World.size_alloc, size_setCell, size_drew, size_drewN]; dsimp only; omega)) _) | (with_reducible refine Below.setCell ?_ (by first | omega | (simp only [World.size_alloc, size_setCell, size_drew, size_drewN]; omega) | (dsimp only; omega) | (simp only [World.size_alloc, size_setCell, size_drew, size_drewN]; dsimp only; omega)) _) | (with_reducible apply below_drewN))⟩
    · have hr : r = (cn, 0) := by have := HR.out; simpa [h1] using this
      clear HR
      subst hr
      go_enter Tryd.func14, Tryd.ntmps14
      go_wp2_with fail
      refine (C1.out _ (by repeat (first | with_reducible assumption | with_reducible exact Below.refl _ _ | with_reducible apply Below.drew | (with_reducible refine Below.alloc ?_ (by first | omega | (simp only [World.size_alloc, size_setCell, size_drew, size_drewN]; omega) | (dsimp only; omega) | (simp only [World.size_alloc, size_setCell, size_drew, size_drewN]; dsimp only; omega)) _) | (with_reducible refine Below.setCell ?_ (by first | omega | (simp only [World.size_alloc, size_setCell, size_drew, size_drewN]; omega) | (dsimp only; omega) | (simp only [World.size_alloc, size_setCell, size_drew, size_drewN]; dsimp only; omega)) _) | (with_reducible apply below_drewN)))).mono ?_
      rintro e w1 ⟨rfl, hb1⟩
      have hB1 : Below w.heap.size w w1 := Below.trans (by repeat (first | with_reducible assumption | with_reducible exact Below.refl _ _ | with_reducible apply Below.drew | (with_reducible refine Below.alloc ?_ (by first | omega | (simp only [World.size_alloc, size_setCell, size_drew, size_drewN]; omega) | (dsimp only; omega) | (simp only [World.size_alloc, size_setCell, size_drew, size_drewN]; dsimp only; omega)) _) | (with_reducible refine Below.setCell ?_ (by first | omega | (simp only [World.size_alloc, size_setCell, size_drew, size_drewN]; omega) | (dsimp only; omega) | (simp only [World.size_alloc, size_setCell, size_drew, size_drewN]; dsimp only; omega)) _) | (with_reducible apply below_drewN))) (hb1.mono (by first | omega | (simp only [World.size_alloc, size_setCell, size_drew, size_drewN]; omega) | (dsimp only; omega) | (simp only [World.size_alloc, size_setCell, size_drew, size_drewN]; dsimp only; omega)))
      obtain ⟨hc1, hf1, hz1⟩ := bcell hb1
      try simp only [World.size_alloc, size_setCell, size_drew, size_drewN] at hz1
      clear hb1
      have y1_0 : w.heap.size < w1.heap.size := by omega
      go_wp2_with fail
      refine (HC2.out _ (by repeat (first | with_reducible assumption | with_reducible exact Below.refl _ _ | with_reducible apply Below.drew | (with_reducible refine Below.alloc ?_ (by first | omega | (simp only [World.size_alloc, size_setCell, size_drew, size_drewN]; omega) | (dsimp only; omega) | (simp only [World.size_alloc, size_setCell, size_drew, size_drewN]; dsimp only; omega)) _) | (with_reducible refine Below.setCell ?_ (by first | omega | (simp only [World.size_alloc, size_setCell, size_drew, size_drewN]; omega) | (dsimp only; omega) | (simp only [World.size_alloc, size_setCell, size_drew, size_drewN]; dsimp only; omega)) _) | (with_reducible apply below_drewN)))).mono ?_
      rintro e w2 ⟨rfl, hb2⟩
      have hB2 : Below w.heap.size w w2 := Below.trans (by repeat (first | with_reducible assumption | with_reducible exact Below.refl _ _ | with_reducible apply Below.drew | (with_reducible refine Below.alloc ?_ (by first | omega | (simp only [World.size_alloc, size_setCell, size_drew, size_drewN]; omega) | (dsimp only; omega) | (simp only [World.size_alloc, size_setCell, size_drew, size_drewN]; dsimp only; omega)) _) | (with_reducible refine Below.setCell ?_ (by first | omega | (simp only [World.size_alloc, size_setCell, size_drew, size_drewN]; omega) | (dsimp only; omega) | (simp only [World.size_alloc, size_setCell, size_drew, size_drewN]; dsimp only; omega)) _) | (with_reducible apply below_drewN))) (hb2.mono (by first | omega | (simp only [World.size_alloc, size_setCell, size_drew, size_drewN]; omega) | (dsimp only; omega) | (simp only [World.size_alloc, size_setCell, size_drew, size_drewN]; dsimp only; omega)))
      obtain ⟨hc2, hf2, hz2⟩ := bcell hb2
      try simp only [World.size_alloc, size_setCell, size_drew, size_drewN] at hz2
      clear hb2
      have y2_0 : w.heap.size < w2.heap.size := by omega
      go_wp2_with fail
      go_ret2
      exact ⟨rfl, by repeat (first | with_reducible assumption | with_reducible exact Below.refl _ _ | with_reducible apply Below.drew | (with_reducible refine Below.alloc ?_ (by first | omega | (simp only [World.size_alloc, size_setCell, size_drew, size_drewN]; omega) | (dsimp only; omega) | (simp only [World.size_alloc, size_setCell, size_drew, size_drewN]; dsimp only; omega)) _) | (with_reducible refine Below.setCell ?_ (by first | omega | (simp only [World.size_alloc, size_setCell, size_drew, size_drewN]; omega) | (dsimp only; omega) | (simp only [World.size_alloc, size_setCell, size_drew, size_drewN]; dsimp only; omega)) _) | (with_reducible apply below_drewN))⟩
  · have he := Lib.hid (errV_ne h0)
    rw [he.out] at C1
    clear C2 HBD
    have hr : r = (0, ce) := by have := HR.out; simpa [h0] using this
    clear HR
    subst hr
    go_enter Tryd.func14, Tryd.ntmps14
    go_wp2_with fail
    refine (C1.out _ (by repeat (first | with_reducible assumption | with_reducible exact Below.refl _ _ | with_reducible apply Below.drew | (with_reducible refine Below.alloc ?_ (by first | omega | (simp only [World.size_alloc, size_setCell, size_drew, size_drewN]; omega) | (dsimp only; omega) | (simp only [World.size_alloc, size_setCell, size_drew, size_drewN]; dsimp only; omega)) _) | (with_reducible refine Below.setCell ?_ (by first | omega | (simp only [World.size_alloc, size_setCell, size_drew, size_drewN]; omega) | (dsimp only; omega) | (simp only [World.size_alloc, size_setCell, size_drew, size_drewN]; dsimp only; omega)) _) | (with_reducible apply below_drewN)))).mono ?_
    rintro e w1 ⟨rfl, hb1⟩
    have hB1 : Below w.heap.size w w1 := Below.trans (by repeat (first | with_reducible assumption | with_reducible exact Below.refl _ _ | with_reducible apply Below.drew | (with_reducible refine Below.alloc ?_ (by first | omega | (simp only [World.size_alloc, size_setCell, size_drew, size_drewN]; omega) | (dsimp only; omega) | (simp only [World.size_alloc, size_setCell, size_drew, size_drewN]; dsimp only; omega)) _) | (with_reducible refine Below.setCell ?_ (by first | omega | (simp only [World.size_alloc, size_setCell, size_drew, size_drewN]; omega) | (dsimp only; omega) | (simp only [World.size_alloc, size_setCell, size_drew, size_drewN]; dsimp only; omega)) _) | (with_reducible apply below_drewN))) (hb1.mono (by first | omega | (simp only [World.size_alloc, size_setCell, size_drew, size_drewN]; omega) | (dsimp only; omega) | (simp only [World.size_alloc, size_setCell, size_drew, size_drewN]; dsimp only; omega)))
    obtain ⟨hc1, hf1, hz1⟩ := bcell hb1
    try simp only [World.size_alloc, size_setCell, size_drew, size_drewN] at hz1
    clear hb1
    have y1_0 : w.heap.size < w1.heap.size := by omega
    go_wp2_with fail
    go_ret2
    exact ⟨by dsimp only; rw [he.out]; rfl, by repeat (first | with_reducible assumption | with_reducible exact Below.refl _ _ | with_reducible apply Below.drew | (with_reducible refine Below.alloc ?_ (by first | omega | (simp only [World.size_alloc, size_setCell, size_drew, size_drewN]; omega) | (dsimp only; omega) | (simp only [World.size_alloc, size_setCell, size_drew, size_drewN]; dsimp only; omega)) _) | (with_reducible refine Below.setCell ?_ (by first | omega | (simp only [World.size_alloc, size_setCell, size_drew, size_drewN]; omega) | (dsimp only; omega) | (simp only [World.size_alloc, size_setCell, size_drew, size_drewN]; dsimp only; omega)) _) | (with_reducible apply below_drewN))⟩
end Go.Proofs.YtbfnlaplhgknaaaDoor
