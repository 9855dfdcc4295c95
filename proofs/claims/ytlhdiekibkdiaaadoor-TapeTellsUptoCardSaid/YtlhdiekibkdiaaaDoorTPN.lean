/- The walk through tape.Parse at the empty text; and whatever the text. -/
import Derived.Test.YtlhdiekibkdiaaaDoorTPA
namespace Go.Proofs.YtlhdiekibkdiaaaDoor
set_option maxRecDepth 100000
open Go Go.RowKit Go.Shelf
set_option linter.unusedSimpArgs false
set_option linter.unusedVariables false
attribute [local go_sem] Oper.semAt_some
set_option maxRecDepth 100000 in
set_option maxHeartbeats 4000000 in
theorem tparse_nil (s : List UInt8) (hs : s.length ≤ 100000000) (hs0 : s = []) (w : World) (hP : PowAt w) (hE : NumErrsAt w) : Calls Tryd.prog 17 #[.string ⟨s.toArray⟩] w (TPaR w s) := by
  have HP := Lib.hid hP
  have HE := Lib.hid hE
  have hse : s.isEmpty = true := by rw [hs0]; rfl
  have HS0 := Lib.hid hs0
  clear hP hE hs0
  refine (callsIn_wide (n := 5)).1 ?_
  refine callsIn_of_wp_marks Tryd.func17 rfl trivial ?_ rfl
  simp only [Tryd.ntmps17, List.size_toArray, List.length_cons, List.length_nil, Nat.reduceAdd, Nat.reduceSub, Array.replicate_succ, Array.replicate_zero, List.push_toArray, List.append_toArray, List.nil_append, List.cons_append]
  gi_wp2_with fail
  refine ⟨trivial, (callsIn_wide.2 (SplitSeq_any s _)).mono ?_⟩
  rintro e w' ⟨rfl, rfl⟩
  gi_wp2_with fail
  have A0 := (((Boxed.new w 9 (.string ⟨s.toArray⟩)).alloc (.cells #[.slice none 0 0] 25)).alloc (.cells #[.nilIface] 39)).alloc (.cells #[.slice none 0 0] 25)
  have A1 := ((Boxed.new (w.alloc (.cells #[.string ⟨s.toArray⟩] 9)) 25 (.slice none 0 0)).alloc (.cells #[.nilIface] 39)).alloc (.cells #[.slice none 0 0] 25)
  have A2 := (Boxed.new ((w.alloc (.cells #[.string ⟨s.toArray⟩] 9)).alloc (.cells #[.slice none 0 0] 25)) 39 .nilIface).alloc (.cells #[.slice none 0 0] 25)
  have A3 := Boxed.new (((w.alloc (.cells #[.string ⟨s.toArray⟩] 9)).alloc (.cells #[.slice none 0 0] 25)).alloc (.cells #[.nilIface] 39)) 25 (.slice none 0 0)
  have hB0 : Below w.heap.size w ((((w.alloc (.cells #[.string ⟨s.toArray⟩] 9)).alloc (.cells #[.slice none 0 0] 25)).alloc (.cells #[.nilIface] 39)).alloc (.cells #[.slice none 0 0] 25)) := by repeat (first | with_reducible assumption | with_reducible exact Below.refl _ _ | with_reducible apply Below.drew | (with_reducible refine Below.alloc ?_ (by first | omega | (simp only [zA, zS, zD, zN]; omega) | (dsimp only; omega) | (simp only [zA, zS, zD, zN]; dsimp only; omega)) _) | (with_reducible refine Below.setCell ?_ (by first | omega | (simp only [zA, zS, zD, zN]; omega) | (dsimp only; omega) | (simp only [zA, zS, zD, zN]; dsimp only; omega)) _) | (with_reducible apply below_drewN))
  have hz0 : ((((w.alloc (.cells #[.string ⟨s.toArray⟩] 9)).alloc (.cells #[.slice none 0 0] 25)).alloc (.cells #[.nilIface] 39)).alloc (.cells #[.slice none 0 0] 25)).heap.size = w.heap.size + 1 + 1 + 1 + 1 := by simp
  simp only [World.size_alloc] at A1 A2 A3
  generalize ((((w.alloc (.cells #[.string ⟨s.toArray⟩] 9)).alloc (.cells #[.slice none 0 0] 25)).alloc (.cells #[.nilIface] 39)).alloc (.cells #[.slice none 0 0] 25)) = W0 at *
  obtain ⟨S0, S1, S2, hbs, hzs⟩ := splitW_boxes W0 s
  have k : ∀ {b : Nat} {t : TypeId} {u : Value}, Boxed W0 b t u → Boxed (splitW W0 s) b t u := fun h => (hbs.block _ h.lt).trans h
  have A0 := k A0
  have A1 := k A1
  have A2 := k A2
  have A3 := k A3
  have hB1 := hB0.trans (hbs.mono hB0.size)
  rw [hz0] at S0 S1 S2 hzs
  clear k hbs hB0
  generalize splitW W0 s = W1 at *
  clear hz0
  have HI0 : ParI w.heap.size (w.heap.size + 1 + 1 + 1 + 1) s w [] W1 := ⟨⟨_, A3, World.ownsRow_nil _ _ _ _, trivial⟩, A0, A1, A2, ⟨_, S0⟩, hB1, by simp, by omega⟩
  refine range_split (N := w.heap.size + 1 + 1 + 1 + 1) (pieces := cutA [] s) rfl (by omega) (gf := 83) (lb := #[.pointer (some ⟨w.heap.size + 1 + 1 + 1 + 1 + 1, 0, none⟩), .pointer (some ⟨w.heap.size + 1 + 1 + 1 + 1, 0, none⟩), .pointer (some ⟨w.heap.size + 1 + 1 + 1 + 1 + 2, 0, none⟩)]) rfl trivial (enters_of Tryd.func83 (by kernel_rfl) rfl)
    (split_stops _ (by omega) _ s hs W1 S0 S1 S2) (by omega) rfl
    (ParI w.heap.size (w.heap.size + 1 + 1 + 1 + 1) s w) (fun c _ W => c = .exit 0 ∧ ParI w.heap.size (w.heap.size + 1 + 1 + 1 + 1) s w [] W)
    (ParI.own _ _ _ _ _ (by omega) (Nat.le_refl _)) (fun c pre W W' row h hg hr => ⟨h.1, ParI.own _ _ _ _ _ (by omega) (Nat.le_refl _) [] W W' row h.2 hg hr⟩) (fun pre W v h => h.set (by omega) v) HI0
    (fun x => { tmps := #[.string ⟨s.toArray⟩, .pointer (some ⟨w.heap.size, 0, none⟩), .pointer (some ⟨w.heap.size + 1, 0, none⟩), .pointer (some ⟨w.heap.size + 1 + 1, 0, none⟩), .pointer (some ⟨w.heap.size + 1 + 1 + 1, 0, none⟩), .string ⟨x.toArray⟩, undef, undef, .string ⟨s.toArray⟩, .func (.func 83) #[] #[.pointer (some ⟨w.heap.size + 1 + 1 + 1 + 1 + 1, 0, none⟩), .pointer (some ⟨w.heap.size + 1 + 1 + 1 + 1, 0, none⟩), .pointer (some ⟨w.heap.size + 1 + 1 + 1 + 1 + 2, 0, none⟩)], .string ⟨x.toArray⟩, undef, undef, undef, undef, undef, undef, undef, undef, undef, undef, undef, undef, undef, undef, undef, undef, undef, undef, undef, undef, undef, undef, undef, undef, undef], defers := [] }) ?assign ?body ?done ?stop
  case assign =>
    intro l x W K hK
    gi_wp2
    exact hK
  case body =>
    rintro l pre x W hI hpx
    clear HI0 A0 A1 A2 A3 S0 S1 S2 hB1
    have hp0 : pre = [] := by
      have h1 := hpx.length_le
      rw [HS0.out] at h1
      simp [cutA] at h1
      exact h1
    subst hp0
    have x0 := hI.s.cell
    gi_wp2
    exact ⟨KeepsFrom.refl _ _, rfl, hI⟩
  case done =>
    rintro D W hD hI hK
    have := hI.n [] (by rw [HS0.out]; simp [cutA])
    simp [numOk, Lib.atoiAll] at this
  case stop =>
    rintro D c pre W hD hpre ⟨rfl, hI⟩ hK
    clear HI0 A0 A1 A2 A3 S0 S1 S2 hB1
    have x0 := hI.s.cell
    obtain ⟨v, hv, hrow, _⟩ := hI.o
    have hc := hv.cell
    obtain ⟨L, hL⟩ : ∃ L, L = ([] : List Int) := ⟨_, rfl⟩
    have hLi : ∀ n ∈ L, In64 n := fun n hn => by
      rw [hL] at hn
      simp at hn
    have HO : OwnInts W (w.heap.size + 1 + 1 + 1 + 1 + 3) v L := by
      unfold OwnInts
      rw [hL]
      exact hrow
    have HIA := HO.at hLi
    obtain ⟨vad, vcap, hvs, _⟩ := HIA.form
    subst hvs
    have hB := hI.b
    have hlen : L.length ≤ 1000000000 := by rw [hL]; simp
    have hrr0 : ∀ b, b < W.heap.size → True := fun _ _ => trivial
    have HI2 := Lib.hid hI
    have HK := Lib.hid hK
    have HLS := Lib.hid hL
    have HIA2 := Lib.hid HIA
    have HO2 := Lib.hid HO
    have HV2 := Lib.hid hv
    have HLI := Lib.hid hLi
    have HDL : Hid (w.heap.size + 1 + 1 < D) := by show _ < _; omega
    have CK := Lib.hid (fun W' (h : Below W.heap.size W W') => tcheck_any (.slice vad L.length vcap) L W' (HIA2.out.ext h))
    have CT := Lib.hid (fun W' (h : Below W.heap.size W W') => ttext_any (.slice vad L.length vcap) L W' (HP.out.ext (hB.trans (h.mono hB.size))) (HIA2.out.ext h) hlen)
    have HS : Hid (∀ W', Below W.drew.heap.size W.drew W' → (fun w' => w'.cell? ⟨w.heap.size + 1 + 1 + 1, 0, none⟩ = some (.slice vad L.length vcap) ∧ w'.cell? ⟨w.heap.size, 0, none⟩ = some (.string ⟨s.toArray⟩)) W') := fun W' h => ⟨((show Blk W.drew _ _ _ from hv).ext h).cell 0, ((show Blk W.drew _ _ _ from hI.s).ext h).cell 0⟩
    have HBd : Hid (Below W.heap.size W W.drew) := Below.drew (Below.refl _ _)
    clear hI hrow hL HO HIA hv hK hrr0 x0 hc hB
    gi_wp2_with fail
    refine wpIn_wide.2 (wp_nrm ?_)
    refine region_mov (S := fun w' => w'.cell? ⟨w.heap.size + 1 + 1 + 1, 0, none⟩ = some (.slice vad L.length vcap) ∧ w'.cell? ⟨w.heap.size, 0, none⟩ = some (.string ⟨s.toArray⟩)) (n := 8) (ms := [(true, 0), (false, 1), (false, 2), (false, 3), (true, 4), (true, 6), (false, 5), (false, 7), (false, 8)]) (hm := by kernel_rfl) (hB := by kernel_rfl) (hQ := fun c a d v w h => h) ?_
    iterate 1
      rw [mov_take]
      simp only [List.getElem?_toArray, List.getElem?_cons_succ, List.getElem?_cons_zero]
      refine ⟨?_, .inl ⟨by rfl, ?_⟩, (HS.out _ (Below.refl _ _)), ?_⟩
      rotate_left
      · rintro w' ⟨s0, s1⟩
        go_simp
        rfl
      simp only [Act.put, List.setIfInBounds_toArray, List.set_cons_zero, List.set_cons_succ]
    generalize W.drew = Wd at *
    rw [mov_step]
    simp only [List.getElem?_toArray, List.getElem?_cons_succ, List.getElem?_cons_zero]
    go_wp2_with fail
    refine (CK.out _ HBd.out).mono ?_
    rintro e W3 ⟨rfl, hb3⟩
    have HB3 := Lib.hid hb3
    clear hb3 CK
    cases hbad : tapeBad L with
    | true =>
      rw [tapeErr_bad hbad]
      have HBAD := Lib.hid hbad
      clear hbad
      go_wp2_with fail
      refine And.intro (fun _ => HS.out _ HB3.out) ?_
      rw [mov_step]
      simp only [List.getElem?_toArray, List.getElem?_cons_succ, List.getElem?_cons_zero]
      go_wp2_with fail
      refine And.intro (fun _ => HS.out _ HB3.out) ?_
      rw [mov_step]
      simp only [List.getElem?_toArray, List.getElem?_cons_succ, List.getElem?_cons_zero]
      go_wp2_with fail
      refine And.intro (fun _ => HS.out _ HB3.out) ?_
      iterate 2
        rw [mov_take]
        simp only [List.getElem?_toArray, List.getElem?_cons_succ, List.getElem?_cons_zero]
        refine ⟨undef, .inr ⟨by rfl, rfl⟩, HS.out _ HB3.out, ?_⟩
        simp only [Act.put, List.setIfInBounds_toArray, List.set_cons_zero, List.set_cons_succ]
      rw [mov_step]
      simp only [List.getElem?_toArray, List.getElem?_cons_succ, List.getElem?_cons_zero]
      go_wp2_with fail
      refine And.intro (fun _ => HS.out _ HB3.out) ?_
      rw [mov_step]
      simp only [List.getElem?_toArray, List.getElem?_cons_succ, List.getElem?_cons_zero]
      go_wp2_with fail
      refine And.intro (fun _ => HS.out _ HB3.out) ?_
      rw [mov_step]
      simp only [List.getElem?_toArray, List.getElem?_cons_succ, List.getElem?_cons_zero]
      go_wp2_with fail
      refine And.intro (fun h => absurd h (by omega)) ?_
      rw [wpMov]
      have HNO : Hid (∀ m, ¬ IsTape s m) := fun m hm => by
        have h2 := HBAD.out
        rw [HLS.out] at h2
        cases h2
      simp only [NrmQ]
      have HT := Lib.hid (HBd.out.trans (HB3.out.mono HBd.out.size))
      have q0 : Boxed W3 w.heap.size 9 (.string ⟨s.toArray⟩) := (HT.out.block _ HI2.out.s.lt).trans HI2.out.s
      have q1 : Boxed W3 (w.heap.size + 1) 25 (.slice none 0 0) := (HT.out.block _ HI2.out.r.lt).trans HI2.out.r
      have q2 : Boxed W3 (w.heap.size + 1 + 1) 39 .nilIface := (HT.out.block _ HI2.out.e.lt).trans HI2.out.e
      have qd : W3.heap[D]? = some (.deferred (some [])) := (HT.out.block D (Array.getElem?_eq_some_iff.1 HK.out).1).trans HK.out
      have HBW : Hid (Below w.heap.size w W3) := HI2.out.b.trans (HT.out.mono HI2.out.b.size)
      have x1 := q1.cell
      have x2 := q2.cell
      have u1 := q1.frozen
      have u2 := q2.frozen
      clear hzs hD
      gi_wp2_with fail
      have g1 := grownBy_setCell' W3 (w.heap.size + 1) (.slice none 0 0)
      have g2 := grownBy_setCell' (W3.setCell ⟨w.heap.size + 1, 0, none⟩ (.slice none 0 0)) (w.heap.size + 1 + 1) (.iface 27 (.int .i64 3))
      have hdl : w.heap.size + 1 + 1 < D := HDL.out
      have t1 : Boxed _ (w.heap.size + 1) 25 (.slice none 0 0) := (q1.set (.slice none 0 0)).kept g2 (by simp)
      have t2 : Boxed _ (w.heap.size + 1 + 1) 39 (.iface 27 (.int .i64 3)) := (q2.kept g1 (by simp)).set (.iface 27 (.int .i64 3))
      have td : ((W3.setCell ⟨w.heap.size + 1, 0, none⟩ (.slice none 0 0)).setCell ⟨w.heap.size + 1 + 1, 0, none⟩ (.iface 27 (.int .i64 3))).heap[D]? = some (.deferred (some [])) := (Below.heap_setCell _ _ _ D (by dsimp only; omega)).trans ((Below.heap_setCell _ _ _ D (by dsimp only; omega)).trans qd)
      have hBZ : Below w.heap.size w ((W3.setCell ⟨w.heap.size + 1, 0, none⟩ (.slice none 0 0)).setCell ⟨w.heap.size + 1 + 1, 0, none⟩ (.iface 27 (.int .i64 3))) := (HBW.out.setCell (by dsimp only; omega) _).setCell (by dsimp only; omega) _
      generalize (W3.setCell ⟨w.heap.size + 1, 0, none⟩ (.slice none 0 0)).setCell ⟨w.heap.size + 1 + 1, 0, none⟩ (.iface 27 (.int .i64 3)) = WZ at *
      refine ⟨by simp, .inl ⟨_, _, rfl, run_takeDeferred td, ?_⟩⟩
      have hg := grownBy_putObj' WZ D (.deferred none)
      have hrr : ∀ r, some D = some r → ∃ o : Obj, WZ.heap[r]? = some o ∧ o.isCells = false := fun r e => by cases e; exact ⟨_, td, rfl⟩
      have d0 := cell_kept t1.cell hg hrr
      have d1 := cell_kept t2.cell hg hrr
      have hBY : Below w.heap.size w (WZ.putObj D (.deferred none)) := hBZ.grown hg hBZ.size (fun k e => by cases e; omega)
      refine ⟨.tuple #[.slice none 0 0, .iface 27 (.int .i64 3)], by simp [results, Tryd.results17, go_sem, d0, d1], ?_⟩
      exact ⟨.inr ⟨by rw [errV_ne (by decide)], HNO.out⟩, hBY⟩
    | false =>
      rw [tapeErr_ok hbad]
      have HOK := Lib.hid hbad
      clear hbad
      go_wp2_with fail
      refine And.intro (fun _ => HS.out _ HB3.out) ?_
      rw [mov_step]
      simp only [List.getElem?_toArray, List.getElem?_cons_succ, List.getElem?_cons_zero]
      go_wp2_with fail
      refine And.intro (fun _ => HS.out _ HB3.out) ?_
      rw [mov_step]
      simp only [List.getElem?_toArray, List.getElem?_cons_succ, List.getElem?_cons_zero]
      go_wp2_with fail
      refine And.intro (fun _ => HS.out _ HB3.out) ?_
      iterate 2
        rw [mov_take]
        simp only [List.getElem?_toArray, List.getElem?_cons_succ, List.getElem?_cons_zero]
        refine ⟨?_, .inl ⟨by rfl, ?_⟩, (HS.out _ HB3.out), ?_⟩
        rotate_left
        · rintro w' ⟨s0, s1⟩
          go_simp
          rfl
        simp only [Act.put, List.setIfInBounds_toArray, List.set_cons_zero, List.set_cons_succ]
      rw [mov_step]
      simp only [List.getElem?_toArray, List.getElem?_cons_succ, List.getElem?_cons_zero]
      go_wp2_with fail
      refine (CT.out _ (HBd.out.trans (HB3.out.mono HBd.out.size))).mono ?_
      rintro e W4 ⟨rfl, hb4⟩
      have HB4 : Hid (Below Wd.heap.size Wd W4) := HB3.out.trans (hb4.mono HB3.out.size)
      clear hb4
      go_wp2_with fail
      refine And.intro (fun _ => HS.out _ HB4.out) ?_
      rw [mov_step]
      simp only [List.getElem?_toArray, List.getElem?_cons_succ, List.getElem?_cons_zero]
      go_wp2_with fail
      refine And.intro (fun _ => HS.out _ HB4.out) ?_
      rw [mov_step]
      simp only [List.getElem?_toArray, List.getElem?_cons_succ, List.getElem?_cons_zero]
      go_wp2_with fail
      refine And.intro (fun h => absurd h (by omega)) ?_
      rw [wpMov]
      by_cases htx : tText L = s
      · have HTP : Hid (IsTape s L) := ⟨tapeBad_false.1 HOK.out, htx⟩
        have et : (!tText L == s) = false := by simp [htx]
        rw [et]
        clear htx et
        simp only [NrmQ]
        have HT := Lib.hid (HBd.out.trans (HB4.out.mono HBd.out.size))
        have q0 : Boxed W4 w.heap.size 9 (.string ⟨s.toArray⟩) := (HT.out.block _ HI2.out.s.lt).trans HI2.out.s
        have q1 : Boxed W4 (w.heap.size + 1) 25 (.slice none 0 0) := (HT.out.block _ HI2.out.r.lt).trans HI2.out.r
        have q2 : Boxed W4 (w.heap.size + 1 + 1) 39 .nilIface := (HT.out.block _ HI2.out.e.lt).trans HI2.out.e
        have qd : W4.heap[D]? = some (.deferred (some [])) := (HT.out.block D (Array.getElem?_eq_some_iff.1 HK.out).1).trans HK.out
        have HBW : Hid (Below w.heap.size w W4) := HI2.out.b.trans (HT.out.mono HI2.out.b.size)
        have HOW : Hid (OwnInts W4 (w.heap.size + 1 + 1 + 1 + 1 + 3) (.slice vad L.length vcap) L) := HO2.out.kept HT.out
        have q3 : Boxed W4 (w.heap.size + 1 + 1 + 1) 25 (.slice vad L.length vcap) := (HT.out.block _ HV2.out.lt).trans HV2.out
        have x1 := q1.cell
        have x2 := q2.cell
        have x3 := q3.cell
        have u1 := q1.frozen
        have u2 := q2.frozen
        clear hzs hD
        gi_wp2_with fail
        have g1 := grownBy_setCell' W4 (w.heap.size + 1) (.slice vad L.length vcap)
        have g2 := grownBy_setCell' (W4.setCell ⟨w.heap.size + 1, 0, none⟩ (.slice vad L.length vcap)) (w.heap.size + 1 + 1) .nilIface
        have hdl : w.heap.size + 1 + 1 < D := HDL.out
        have hlo := World.ownsRow.lt HOW.out
        have t1 : Boxed _ (w.heap.size + 1) 25 (.slice vad L.length vcap) := (q1.set (.slice vad L.length vcap)).kept g2 (by simp)
        have t2 : Boxed _ (w.heap.size + 1 + 1) 39 .nilIface := (q2.kept g1 (by simp)).set .nilIface
        have t3 := World.ownsRow.kept (World.ownsRow.kept HOW.out g1 (.inr (fun e => by have := (hlo _ e).1; omega))) g2 (.inr (fun e => by have := (hlo _ e).1; omega))
        have td : ((W4.setCell ⟨w.heap.size + 1, 0, none⟩ (.slice vad L.length vcap)).setCell ⟨w.heap.size + 1 + 1, 0, none⟩ .nilIface).heap[D]? = some (.deferred (some [])) := (Below.heap_setCell _ _ _ D (by dsimp only; omega)).trans ((Below.heap_setCell _ _ _ D (by dsimp only; omega)).trans qd)
        have hBZ : Below w.heap.size w ((W4.setCell ⟨w.heap.size + 1, 0, none⟩ (.slice vad L.length vcap)).setCell ⟨w.heap.size + 1 + 1, 0, none⟩ .nilIface) := (HBW.out.setCell (by dsimp only; omega) _).setCell (by dsimp only; omega) _
        generalize (W4.setCell ⟨w.heap.size + 1, 0, none⟩ (.slice vad L.length vcap)).setCell ⟨w.heap.size + 1 + 1, 0, none⟩ .nilIface = WZ at *
        refine ⟨by simp, .inl ⟨_, _, rfl, run_takeDeferred td, ?_⟩⟩
        have hg := grownBy_putObj' WZ D (.deferred none)
        have hrr : ∀ r, some D = some r → ∃ o : Obj, WZ.heap[r]? = some o ∧ o.isCells = false := fun r e => by cases e; exact ⟨_, td, rfl⟩
        have d0 := cell_kept t1.cell hg hrr
        have d1 := cell_kept t2.cell hg hrr
        have hBY : Below w.heap.size w (WZ.putObj D (.deferred none)) := hBZ.grown hg hBZ.size (fun k e => by cases e; omega)
        have t4 := ownsRow_putObj t3 (.deferred none) td rfl
        refine ⟨.tuple #[.slice vad L.length vcap, .nilIface], by simp [results, Tryd.results17, go_sem, d0, d1], ?_⟩
        exact ⟨.inl ⟨_, L, rfl, OwnInts.at t4 HLI.out, HTP.out⟩, hBY⟩
      · have HNO : Hid (∀ m, ¬ IsTape s m) := fun m hm => by
          exact htx (by rw [HLS.out, HS0.out]; rfl)
        have et : (!tText L == s) = true := by simp [htx]
        rw [et]
        clear htx et
        simp only [NrmQ]
        have HT := Lib.hid (HBd.out.trans (HB4.out.mono HBd.out.size))
        have q0 : Boxed W4 w.heap.size 9 (.string ⟨s.toArray⟩) := (HT.out.block _ HI2.out.s.lt).trans HI2.out.s
        have q1 : Boxed W4 (w.heap.size + 1) 25 (.slice none 0 0) := (HT.out.block _ HI2.out.r.lt).trans HI2.out.r
        have q2 : Boxed W4 (w.heap.size + 1 + 1) 39 .nilIface := (HT.out.block _ HI2.out.e.lt).trans HI2.out.e
        have qd : W4.heap[D]? = some (.deferred (some [])) := (HT.out.block D (Array.getElem?_eq_some_iff.1 HK.out).1).trans HK.out
        have HBW : Hid (Below w.heap.size w W4) := HI2.out.b.trans (HT.out.mono HI2.out.b.size)
        have x1 := q1.cell
        have x2 := q2.cell
        have u1 := q1.frozen
        have u2 := q2.frozen
        clear hzs hD
        gi_wp2_with fail
        have g1 := grownBy_setCell' W4 (w.heap.size + 1) (.slice none 0 0)
        have g2 := grownBy_setCell' (W4.setCell ⟨w.heap.size + 1, 0, none⟩ (.slice none 0 0)) (w.heap.size + 1 + 1) (.iface 27 (.int .i64 3))
        have hdl : w.heap.size + 1 + 1 < D := HDL.out
        have t1 : Boxed _ (w.heap.size + 1) 25 (.slice none 0 0) := (q1.set (.slice none 0 0)).kept g2 (by simp)
        have t2 : Boxed _ (w.heap.size + 1 + 1) 39 (.iface 27 (.int .i64 3)) := (q2.kept g1 (by simp)).set (.iface 27 (.int .i64 3))
        have td : ((W4.setCell ⟨w.heap.size + 1, 0, none⟩ (.slice none 0 0)).setCell ⟨w.heap.size + 1 + 1, 0, none⟩ (.iface 27 (.int .i64 3))).heap[D]? = some (.deferred (some [])) := (Below.heap_setCell _ _ _ D (by dsimp only; omega)).trans ((Below.heap_setCell _ _ _ D (by dsimp only; omega)).trans qd)
        have hBZ : Below w.heap.size w ((W4.setCell ⟨w.heap.size + 1, 0, none⟩ (.slice none 0 0)).setCell ⟨w.heap.size + 1 + 1, 0, none⟩ (.iface 27 (.int .i64 3))) := (HBW.out.setCell (by dsimp only; omega) _).setCell (by dsimp only; omega) _
        generalize (W4.setCell ⟨w.heap.size + 1, 0, none⟩ (.slice none 0 0)).setCell ⟨w.heap.size + 1 + 1, 0, none⟩ (.iface 27 (.int .i64 3)) = WZ at *
        refine ⟨by simp, .inl ⟨_, _, rfl, run_takeDeferred td, ?_⟩⟩
        have hg := grownBy_putObj' WZ D (.deferred none)
        have hrr : ∀ r, some D = some r → ∃ o : Obj, WZ.heap[r]? = some o ∧ o.isCells = false := fun r e => by cases e; exact ⟨_, td, rfl⟩
        have d0 := cell_kept t1.cell hg hrr
        have d1 := cell_kept t2.cell hg hrr
        have hBY : Below w.heap.size w (WZ.putObj D (.deferred none)) := hBZ.grown hg hBZ.size (fun k e => by cases e; omega)
        refine ⟨.tuple #[.slice none 0 0, .iface 27 (.int .i64 3)], by simp [results, Tryd.results17, go_sem, d0, d1], ?_⟩
        exact ⟨.inr ⟨by rw [errV_ne (by decide)], HNO.out⟩, hBY⟩
theorem tparse_any (s : List UInt8) (hs : s.length ≤ 100000000) (w : World) (hP : PowAt w) (hE : NumErrsAt w) : Calls Tryd.prog 17 #[.string ⟨s.toArray⟩] w (TPaR w s) := by
  by_cases h : s = []
  · exact tparse_nil s hs h w hP hE
  · exact tparse_ne s hs h w hP hE
end Go.Proofs.YtlhdiekibkdiaaaDoor
