/- The walk through the statement GenTears. -/
import Derived.Test.YtcecpggkeaohnaaDoorPTears
import Derived.Test.YtcecpggkeaohnaaDoorREGQ
import Derived.Test.YtcecpggkeaohnaaDoorTAs
import Derived.Test.YtcecpggkeaohnaaDoorLMade
import Derived.Deep.DeepCutAuto
namespace Go.Proofs.YtcecpggkeaohnaaDoor
set_option maxRecDepth 100000
open Go.RowKit
set_option linter.unusedSimpArgs false
set_option linter.unusedVariables false
theorem one_at {w : World} {bl : Nat} (x : Int) (hx : In64 x) (h : Blk w bl #[.int .i64 x] 3) : IntsAt w (.slice (some ⟨bl, 0, none⟩) 1 1) [x] := by
  refine ⟨by simpa using hx, .inr ⟨_, 1, rfl, by simp, by decide, fun i hi => ?_⟩⟩
  have : i = 0 := by simpa using hi
  subst this
  exact h.cell 0
theorem grown_keep {w w1 : World} {r : Option Nat} {b : Nat} {cs : Array Value} {t : TypeId} (hg : w.grownBy w1 r) (h : Blk w b cs t) (hne : r ≠ some b) : Blk w1 b cs t :=
  (hg.block b h.lt (fun e => hne e.symm)).trans h
theorem own_ne_val {w : World} {base b : Nat} {v : Value} {xs : List Int} {cs : Array Value} (ho : OwnInts w base v xs) (h : Blk w b cs 27) : v.ownBlock ≠ some b := by
  rcases ho.2 with ⟨rfl, _⟩ | ⟨g, cap, cur, rfl, _, hb, _⟩
  · simp [Value.ownBlock]
  · intro e
    have e2 : g = b := by simpa [Value.ownBlock] using e
    subst e2
    have h2 := h
    unfold Blk at h2
    rw [hb] at h2
    simp at h2
theorem mendR_len (g : GT) (hc : GT.check g = 0) (l : List Int) : (mendR g l).length ≤ 1399680 := by
  obtain ⟨t, h⟩ := mend_play g hc l
  have h1 := GT.play_bud (stMend l) (fun out => 1099511627776 - out.length) (fun m q c q' hm h => stMend_bd hm h) (fun m q c q' hm h => by
    simp only [stMend, Except.ok.injEq, Prod.mk.injEq] at h
    rw [← h.2]
    simp
    omega) g (GT.check_ok hc) [] t _ h
  have h2 := GT.cost_ok hc
  simp only [List.length_nil] at h1
  omega
theorem ints_take {w : World} {ad : Option Addr} {cap K : Nat} {M : List Int} (h : IntsAt w (.slice ad M.length cap) M) (hK : K < M.length) : IntsAt w (.slice ad K cap) (M.take K) := by
  refine ⟨fun n hn => h.1 n (List.mem_of_mem_take hn), ?_⟩
  rcases h.2 with ⟨_, e⟩ | ⟨a, c, e, h1, h2, h3⟩
  · rw [e] at hK; simp at hK
  · simp only [Value.slice.injEq] at e
    obtain ⟨rfl, _, rfl⟩ := e
    refine .inr ⟨a, cap, by simp [Nat.min_eq_left (Nat.le_of_lt hK)], by simp; omega, h2, fun i hi => ?_⟩
    have hi2 : i < K := by simp at hi; omega
    rw [h3 i (by omega)]
    simp [List.getD_eq_getElem?_getD, List.getElem?_take, hi2]
set_option maxRecDepth 100000 in
set_option maxHeartbeats 40000000 in
theorem genTears_go {v0 v1 v2 v3 : Value} (w : World) (hE : ErrTypeAt w) (g : GT) (o0 : GenAt w v0 g) (l : List Int) (o1 : IntsAt w v1 l) (k : Int) (o2 : IntAt v2 k) (x : Int) (o3 : IntAt v3 x) :
    Calls Tryd.prog 8 #[v0, v1, v2, v3] w fun e w' => e = .returned (.bool true) ∧ Below w.heap.size w w' := by
  have HE := Lib.hid hE
  have HG := Lib.hid o0
  have HL := Lib.hid o1
  obtain ⟨k0, a0, b0, n0, ad0, c0, rfl⟩ := o0.shape
  obtain ⟨lad, lcap, rfl, _⟩ := o1.form
  obtain ⟨rfl, hk64⟩ := o2
  obtain ⟨rfl, hx64⟩ := o3
  have HX := Lib.hid hx64
  have HK := Lib.hid hk64
  clear hE o0 o1 hk64 hx64
  go_enter Tryd.func8, Tryd.ntmps8
  go_wp2_with fail
  generalize hW0 : (w.alloc (.cells #[.int .i64 k0, .int .i64 a0, .int .i64 b0, .slice ad0 n0 c0] 41)) = W0
  have hB0 : Below w.heap.size w W0 := by rw [← hW0]; repeat (first | with_reducible assumption | with_reducible exact Below.refl _ _ | with_reducible apply Below.drew | (with_reducible refine Below.alloc ?_ (by first | omega | (simp only [World.size_alloc, size_setCell, size_drew, size_drewN]; omega) | (dsimp only; omega) | (simp only [World.size_alloc, size_setCell, size_drew, size_drewN]; dsimp only; omega)) _) | (with_reducible refine Below.setCell ?_ (by first | omega | (simp only [World.size_alloc, size_setCell, size_drew, size_drewN]; omega) | (dsimp only; omega) | (simp only [World.size_alloc, size_setCell, size_drew, size_drewN]; dsimp only; omega)) _) | (with_reducible apply below_drewN))
  have X0 : Blk W0 (w.heap.size) #[.int .i64 k0, .int .i64 a0, .int .i64 b0, .slice ad0 n0 c0] 41 := by rw [← hW0]; exact (Blk.new w #[.int .i64 k0, .int .i64 a0, .int .i64 b0, .slice ad0 n0 c0] 41)
  clear hW0
  refine (made_fact _).mono ?_
  rintro e W1 ⟨rfl, hb⟩
  have hB1 : Below w.heap.size w W1 := hB0.trans (hb.mono hB0.size)
  have X0 := X0.ext hb
  clear hb hB0
  by_cases hc : GT.check g = 0
  case neg =>
    have g0 := X0.cell 0
    have g1 := X0.cell 1
    have g2 := X0.cell 2
    have g3 := X0.cell 3
    simp only [List.getElem?_toArray, List.getElem?_cons_succ, List.getElem?_cons_zero] at g0 g1 g2 g3
    go_wp2_with fail
    refine (mend_bad g _ (.slice lad l.length lcap) hc _ (HG.out.ext hB1) ⟨_, _, _, rfl⟩).mono ?_
    rintro _ W3 ⟨rfl, hb⟩
    have hB3 := hB1.trans (hb.mono hB1.size)
    rw [errV_ne hc]
    clear g0 g1 g2 g3 hb hc
    go_wp2_with fail
    go_ret
    exact ⟨rfl, hB3⟩
  have HP3 := Lib.hid (play_more g hc l x)
  have HP5 := Lib.hid (fun k hk => play_torn g hc l k hk)
  have hM1 := mendR_len g hc l
  have HC := Lib.hid hc
  clear hc
  have f0_0 := X0.cell 0
  have f0_1 := X0.cell 1
  have f0_2 := X0.cell 2
  have f0_3 := X0.cell 3
  simp only [List.getElem?_toArray, List.getElem?_cons_succ, List.getElem?_cons_zero] at f0_0 f0_1 f0_2 f0_3
  go_wp2_with fail
  refine (mend_any g l _ _ HC.out _ (HG.out.ext hB1) (HL.out.ext hB1)).mono ?_
  rintro e W2 ⟨⟨mv, rfl, hmv⟩, hb⟩
  clear f0_0 f0_1 f0_2 f0_3
  have hB2 : Below w.heap.size w W2 := hB1.trans (hb.mono hB1.size)
  have X0 := X0.ext hb
  clear hb hB1
  have HMV := Lib.hid hmv
  obtain ⟨mad, mcap, rfl, hml, hmm, hin, _⟩ := hmv.form
  have HIN : Hid (∀ n ∈ [] ++ mendR g l ++ [x], In64 n) := by
    intro n hn
    simp only [List.nil_append, List.mem_append, List.mem_singleton] at hn
    rcases hn with h | h
    · exact hin n h
    · rw [h]; exact HX.out
  unfold maxLen at hmm
  clear hmv hin
  generalize mendR g l = M at *
  go_upto_region 5 with (fail)
  go_cut [13] (fun s13 wx => s13 = .iface 63 (.int .i64 3) ∧ Below W2.heap.size W2 wx)
  case first =>
   have s0 := X0.cell 0
   have s1 := X0.cell 1
   have s2 := X0.cell 2
   have s3 := X0.cell 3
   simp only [List.getElem?_toArray, List.getElem?_cons_succ, List.getElem?_cons_zero] at s0 s1 s2 s3
   refine region_q (S := fun w' => w'.cell? ⟨w.heap.size, 0, none⟩ = some (.int .i64 k0) ∧ w'.cell? ⟨w.heap.size, 1, none⟩ = some (.int .i64 a0) ∧ w'.cell? ⟨w.heap.size, 2, none⟩ = some (.int .i64 b0) ∧ w'.cell? ⟨w.heap.size, 3, none⟩ = some (.slice ad0 n0 c0)) (n := 13) (ms := .take 0 (.take 2 (.take 4 (.fork3 1 (.fork3 3 (.fork 5 (.fork 6 (.fork 7 (.take 8 (.take 9 (.take 10 (.step 11 (.step 12 (.step 13 .done)))))) 11 (.step 7 (.take 8 (.take 9 (.take 10 (.step 12 (.step 13 .done))))))) 11 (.step 6 (.step 7 (.take 8 (.take 9 (.take 10 (.step 12 (.step 13 .done)))))))) 11 (.step 5 (.step 6 (.step 7 (.take 8 (.take 9 (.take 10 (.step 12 (.step 13 .done))))))))) 5 (.fork 3 (.fork 6 (.fork 7 (.take 8 (.take 9 (.take 10 (.step 11 (.step 12 (.step 13 .done)))))) 11 (.step 7 (.take 8 (.take 9 (.take 10 (.step 12 (.step 13 .done))))))) 11 (.step 6 (.step 7 (.take 8 (.take 9 (.take 10 (.step 12 (.step 13 .done)))))))) 11 (.step 3 (.step 6 (.step 7 (.take 8 (.take 9 (.take 10 (.step 12 (.step 13 .done))))))))) 11 (.fork 3 (.step 5 (.step 6 (.step 7 (.take 8 (.take 9 (.take 10 (.step 12 (.step 13 .done)))))))) 5 (.step 3 (.step 6 (.step 7 (.take 8 (.take 9 (.take 10 (.step 12 (.step 13 .done)))))))))) 5 (.fork 1 (.fork 3 (.fork 6 (.fork 7 (.take 8 (.take 9 (.take 10 (.step 11 (.step 12 (.step 13 .done)))))) 11 (.step 7 (.take 8 (.take 9 (.take 10 (.step 12 (.step 13 .done))))))) 11 (.step 6 (.step 7 (.take 8 (.take 9 (.take 10 (.step 12 (.step 13 .done)))))))) 11 (.step 3 (.step 6 (.step 7 (.take 8 (.take 9 (.take 10 (.step 12 (.step 13 .done))))))))) 11 (.step 1 (.step 3 (.step 6 (.step 7 (.take 8 (.take 9 (.take 10 (.step 12 (.step 13 .done)))))))))) 11 (.fork 1 (.fork 3 (.step 5 (.step 6 (.step 7 (.take 8 (.take 9 (.take 10 (.step 12 (.step 13 .done)))))))) 5 (.step 3 (.step 6 (.step 7 (.take 8 (.take 9 (.take 10 (.step 12 (.step 13 .done))))))))) 5 (.step 1 (.step 3 (.step 6 (.step 7 (.take 8 (.take 9 (.take 10 (.step 12 (.step 13 .done)))))))))))))) (hm := by kernel_rfl) (hB := by kernel_rfl) (hQ := fun c a d v w h => by cases d <;> exact h) ?_
   have HS0 : Hid ((fun w' => w'.cell? ⟨w.heap.size, 0, none⟩ = some (.int .i64 k0) ∧ w'.cell? ⟨w.heap.size, 1, none⟩ = some (.int .i64 a0) ∧ w'.cell? ⟨w.heap.size, 2, none⟩ = some (.int .i64 b0) ∧ w'.cell? ⟨w.heap.size, 3, none⟩ = some (.slice ad0 n0 c0)) W2.drew) := ⟨s0, s1, s2, s3⟩
   iterate 3
     rw [q_take]
     simp only [List.getElem?_toArray, List.getElem?_cons_succ, List.getElem?_cons_zero]
     refine ⟨?_, .inl ⟨by rfl, ?_⟩, HS0.out, ?_⟩
     rotate_left
     · rintro w' ⟨s0, s1, s2, s3⟩
       go_simp
       rfl
     simp only [Act.put, List.setIfInBounds_toArray, List.set_cons_zero, List.set_cons_succ]
   have hBd : Below w.heap.size w W2.drew := hB2.drew
   have hWd : Below W2.heap.size W2 W2.drew := Below.drew (Below.refl _ _)
   have HMd := Lib.hid (HMV.out.ext (Below.drew (Below.refl _ _) : Below W2.heap.size W2 W2.drew))
   have XD0 : Blk W2.drew w.heap.size #[.int .i64 k0, .int .i64 a0, .int .i64 b0, .slice ad0 n0 c0] 41 := X0
   clear s0 s1 s2 s3 X0 HMV HS0 hB2
   generalize W2.drew = Wd at *
   have X0 := XD0
   clear XD0
   have HS : Hid (∀ W', Below Wd.heap.size Wd W' → (fun w' => w'.cell? ⟨w.heap.size, 0, none⟩ = some (.int .i64 k0) ∧ w'.cell? ⟨w.heap.size, 1, none⟩ = some (.int .i64 a0) ∧ w'.cell? ⟨w.heap.size, 2, none⟩ = some (.int .i64 b0) ∧ w'.cell? ⟨w.heap.size, 3, none⟩ = some (.slice ad0 n0 c0)) W') := fun W' h => ⟨(X0.ext h).cell 0, (X0.ext h).cell 1, (X0.ext h).cell 2, (X0.ext h).cell 3⟩
   have hC : Below Wd.heap.size Wd Wd := Below.refl _ _
   rw [q_fork3]
   refine ⟨?_, ?_, ?_⟩
   ·
     rw [q_step]
     simp only [List.getElem?_toArray, List.getElem?_cons_succ, List.getElem?_cons_zero]
     go_wp2_with fail
     refine And.intro (by first | exact (fun _ => HS.out _ (hC.alloc (hC.size) _)) | exact HS.out _ (hC.alloc (hC.size) _)) ?_
     have hzC : Wd.heap.size < (Wd.alloc (.cells #[] 3)).heap.size := by simp
     have hlC : Wd.heap.size ≤ Wd.heap.size := hC.size
     have hbA : Below Wd.heap.size Wd (Wd.alloc (.cells #[] 3)) := (Below.refl _ _).alloc (Nat.le_refl _) _
     have HO : Hid (OwnInts (Wd.alloc (.cells #[] 3)) Wd.heap.size (.slice (some ⟨Wd.heap.size, 0, none⟩) 0 0) []) := OwnInts.lit Wd Wd.heap.size [] hlC (by decide)
     have hC := hC.alloc (hC.size) (.cells #[] 3)
     generalize hN : Wd.alloc (.cells #[] 3) = C0 at *
     clear hN
     have hL1 : Wd.heap.size < C0.heap.size := by omega
     clear hbA hzC
     rw [q_fork3]
     refine ⟨?_, ?_, ?_⟩
     ·
       rw [q_step]
       simp only [List.getElem?_toArray, List.getElem?_cons_succ, List.getElem?_cons_zero]
       refine append_ints (v := .slice (some ⟨Wd.heap.size, 0, none⟩) 0 0) (xs := []) (base := Wd.heap.size) (src := .slice mad M.length mcap) (l := M) rfl _ _ rfl rfl HO.out rfl (HMd.out.ext hC) (by simp; omega) (by exact hC.size) ?_
       intro vx C1 hox hg _
       have hbA : Below Wd.heap.size C0 C1 := grown_own HO.out hg hC.size
       have hC := hC.trans hbA
       have HO := Lib.hid hox
       clear hbA hg hox
       refine And.intro (by first | exact (fun _ => HS.out _ hC) | exact HS.out _ hC) ?_
       simp only [Act.put, List.setIfInBounds_toArray, List.set_cons_zero, List.set_cons_succ]
       rw [q_fork]
       refine ⟨?_, ?_⟩
       ·
         rw [q_step]
         simp only [List.getElem?_toArray, List.getElem?_cons_succ, List.getElem?_cons_zero]
         go_wp2_with fail
         refine And.intro (by first | exact (fun _ => HS.out _ (hC.alloc (hC.size) _)) | exact HS.out _ (hC.alloc (hC.size) _)) ?_
         have hzC : C1.heap.size < (C1.alloc (.cells #[.int .i64 x] 3)).heap.size := by simp
         have hlC : Wd.heap.size ≤ C1.heap.size := hC.size
         have hbA : Below C1.heap.size C1 (C1.alloc (.cells #[.int .i64 x] 3)) := (Below.refl _ _).alloc (Nat.le_refl _) _
         have HO := Lib.hid (HO.out.kept hbA)
         have X5 := Blk.new C1 #[.int .i64 x] 3
         have hC := hC.alloc (hC.size) (.cells #[.int .i64 x] 3)
         generalize hN : C1.alloc (.cells #[.int .i64 x] 3) = C2 at *
         clear hN
         have hL5 : C1.heap.size < C2.heap.size := by omega
         clear hbA hzC
         rw [q_fork]
         refine ⟨?_, ?_⟩
         ·
           rw [q_step]
           simp only [List.getElem?_toArray, List.getElem?_cons_succ, List.getElem?_cons_zero]
           refine append_ints (v := vx) (xs := [] ++ M) (base := Wd.heap.size) (src := .slice (some ⟨C1.heap.size, 0, none⟩) 1 1) (l := [x]) rfl _ _ rfl rfl HO.out rfl (one_at x HX.out X5) (by simp; omega) (by exact hC.size) ?_
           intro vy C3 hoy hg _
           have hbA : Below Wd.heap.size C2 C3 := grown_own HO.out hg hC.size
           have hC := hC.trans hbA
           have HY := Lib.hid (show IntsAt C3 vy (M ++ [x]) from by have := hoy.at HIN.out; simpa using this)
           clear hbA hg hoy HO X5
           refine And.intro (by first | exact (fun _ => HS.out _ hC) | exact HS.out _ hC) ?_
           simp only [Act.put, List.setIfInBounds_toArray, List.set_cons_zero, List.set_cons_succ]
           rw [q_fork]
           refine ⟨?_, ?_⟩
           ·
             rw [q_step]
             simp only [List.getElem?_toArray, List.getElem?_cons_succ, List.getElem?_cons_zero]
             go_wp2_with fail
             refine (replay_any g (M ++ [x]) _ _ C3 (HG.out.ext (hBd.trans (hC.mono hBd.size))) HY.out).mono ?_
             rw [HP3.out, errV_ne (show (3 : Int) ≠ 0 by omega)]
             rintro _ C4 ⟨⟨rv, rfl, hrv⟩, hb5⟩
             obtain ⟨rl, rn, rk, rad, rcap, rfl⟩ := hrv.shape
             have hC := hC.trans (hb5.mono hC.size)
             clear hb5 hrv HY
             go_wp2_with fail
             refine And.intro (by first | exact (fun _ => HS.out _ hC) | exact HS.out _ hC) ?_
             iterate 3
               rw [q_take]
               simp only [List.getElem?_toArray, List.getElem?_cons_succ, List.getElem?_cons_zero]
               refine ⟨?_, .inl ⟨by rfl, ?_⟩, (HS.out _ hC), ?_⟩
               rotate_left
               · rintro w' _
                 go_simp
                 rfl
               simp only [Act.put, List.setIfInBounds_toArray, List.set_cons_zero, List.set_cons_succ]
             rw [q_step]
             simp only [List.getElem?_toArray, List.getElem?_cons_succ, List.getElem?_cons_zero]
             go_wp2_with fail
             refine And.intro (by first | exact (fun _ => HS.out _ (hC.alloc (hC.size) _)) | exact HS.out _ (hC.alloc (hC.size) _)) ?_
             have hlX : Wd.heap.size ≤ C4.heap.size := hC.size
             have XB := Blk.new C4 #[.bool false, .int .i64 0, .slice none 0 0] 27
             have hC := hC.alloc (hC.size) (.cells #[.bool false, .int .i64 0, .slice none 0 0] 27)
             generalize hN : C4.alloc (.cells #[.bool false, .int .i64 0, .slice none 0 0] 27) = C5 at *
             clear hN
             have hbx : Wd.heap.size ≤ C4.heap.size := hlX
             have h0 := XB.cell 0
             have h1 := XB.cell 1
             have h2 := XB.cell 2
             simp only [List.getElem?_toArray, List.getElem?_cons_succ, List.getElem?_cons_zero] at h0 h1 h2
             have u0 := XB.unfrozen 0
             have u1 := XB.unfrozen 1
             have u2 := XB.unfrozen 2
             rw [q_step]
             simp only [List.getElem?_toArray, List.getElem?_cons_succ, List.getElem?_cons_zero]
             go_wp2_with fail
             have hC := ((hC.setCell (p := ⟨C4.heap.size, 0, none⟩) hbx (.bool rl)).setCell (p := ⟨C4.heap.size, 1, none⟩) hbx (.int .i64 rn)).setCell (p := ⟨C4.heap.size, 2, none⟩) hbx (.slice rad rk rcap)
             clear h0 h1 h2 u0 u1 u2 XB
             refine And.intro (by first | exact (fun _ => HS.out _ hC) | exact HS.out _ hC) ?_
             rw [q_step]
             simp only [List.getElem?_toArray, List.getElem?_cons_succ, List.getElem?_cons_zero]
             go_wp2_with fail
             refine And.intro (fun h => absurd h (by decide)) ?_
             rw [q_done]
             generalize (((C5.setCell ⟨C4.heap.size, 0, none⟩ (.bool rl)).setCell ⟨C4.heap.size, 1, none⟩ (.int .i64 rn)).setCell ⟨C4.heap.size, 2, none⟩ (.slice rad rk rcap)) = WF at *
             go_wp2_with fail
             go_meet
             exact ⟨rfl, hWd.trans (hC.mono hWd.size)⟩
           ·
             rw [q_step]
             simp only [List.getElem?_toArray, List.getElem?_cons_succ, List.getElem?_cons_zero]
             go_wp2_with fail
             refine And.intro (by first | exact (fun _ => HS.out _ (hC.alloc (hC.size) _)) | exact HS.out _ (hC.alloc (hC.size) _)) ?_
             have hzC : C3.heap.size < (C3.alloc (.cells #[.bool false, .int .i64 0, .slice none 0 0] 27)).heap.size := by simp
             have hlC : Wd.heap.size ≤ C3.heap.size := hC.size
             have hbA : Below C3.heap.size C3 (C3.alloc (.cells #[.bool false, .int .i64 0, .slice none 0 0] 27)) := (Below.refl _ _).alloc (Nat.le_refl _) _
             have HY := Lib.hid (HY.out.ext hbA)
             have XB := Blk.new C3 #[.bool false, .int .i64 0, .slice none 0 0] 27
             have hlX : Wd.heap.size ≤ C3.heap.size := hlC
             have hC := hC.alloc (hC.size) (.cells #[.bool false, .int .i64 0, .slice none 0 0] 27)
             generalize hN : C3.alloc (.cells #[.bool false, .int .i64 0, .slice none 0 0] 27) = C6 at *
             clear hN
             clear hbA hzC
             rw [q_step]
             simp only [List.getElem?_toArray, List.getElem?_cons_succ, List.getElem?_cons_zero]
             go_wp2_with fail
             refine (replay_any g (M ++ [x]) _ _ C6 (HG.out.ext (hBd.trans (hC.mono hBd.size))) HY.out).mono ?_
             rw [HP3.out, errV_ne (show (3 : Int) ≠ 0 by omega)]
             rintro _ C7 ⟨⟨rv, rfl, hrv⟩, hb5⟩
             obtain ⟨rl, rn, rk, rad, rcap, rfl⟩ := hrv.shape
             have XB := XB.ext hb5
             have hC := hC.trans (hb5.mono hC.size)
             clear hb5 hrv HY
             go_wp2_with fail
             refine And.intro (by first | exact (fun _ => HS.out _ hC) | exact HS.out _ hC) ?_
             iterate 3
               rw [q_take]
               simp only [List.getElem?_toArray, List.getElem?_cons_succ, List.getElem?_cons_zero]
               refine ⟨?_, .inl ⟨by rfl, ?_⟩, (HS.out _ hC), ?_⟩
               rotate_left
               · rintro w' _
                 go_simp
                 rfl
               simp only [Act.put, List.setIfInBounds_toArray, List.set_cons_zero, List.set_cons_succ]
             have hbx : Wd.heap.size ≤ C3.heap.size := hlX
             have h0 := XB.cell 0
             have h1 := XB.cell 1
             have h2 := XB.cell 2
             simp only [List.getElem?_toArray, List.getElem?_cons_succ, List.getElem?_cons_zero] at h0 h1 h2
             have u0 := XB.unfrozen 0
             have u1 := XB.unfrozen 1
             have u2 := XB.unfrozen 2
             rw [q_step]
             simp only [List.getElem?_toArray, List.getElem?_cons_succ, List.getElem?_cons_zero]
             go_wp2_with fail
             have hC := ((hC.setCell (p := ⟨C3.heap.size, 0, none⟩) hbx (.bool rl)).setCell (p := ⟨C3.heap.size, 1, none⟩) hbx (.int .i64 rn)).setCell (p := ⟨C3.heap.size, 2, none⟩) hbx (.slice rad rk rcap)
             clear h0 h1 h2 u0 u1 u2 XB
             refine And.intro (by first | exact (fun _ => HS.out _ hC) | exact HS.out _ hC) ?_
             rw [q_step]
             simp only [List.getElem?_toArray, List.getElem?_cons_succ, List.getElem?_cons_zero]
             go_wp2_with fail
             refine And.intro (fun h => absurd h (by decide)) ?_
             rw [q_done]
             generalize (((C7.setCell ⟨C3.heap.size, 0, none⟩ (.bool rl)).setCell ⟨C3.heap.size, 1, none⟩ (.int .i64 rn)).setCell ⟨C3.heap.size, 2, none⟩ (.slice rad rk rcap)) = WF at *
             go_wp2_with fail
             go_meet
             exact ⟨rfl, hWd.trans (hC.mono hWd.size)⟩
         ·
           rw [q_step]
           simp only [List.getElem?_toArray, List.getElem?_cons_succ, List.getElem?_cons_zero]
           go_wp2_with fail
           refine And.intro (by first | exact (fun _ => HS.out _ (hC.alloc (hC.size) _)) | exact HS.out _ (hC.alloc (hC.size) _)) ?_
           have hzC : C2.heap.size < (C2.alloc (.cells #[.bool false, .int .i64 0, .slice none 0 0] 27)).heap.size := by simp
           have hlC : Wd.heap.size ≤ C2.heap.size := hC.size
           have hbA : Below C2.heap.size C2 (C2.alloc (.cells #[.bool false, .int .i64 0, .slice none 0 0] 27)) := (Below.refl _ _).alloc (Nat.le_refl _) _
           have HO := Lib.hid (HO.out.kept hbA)
           have X5 := X5.ext hbA
           have XB := Blk.new C2 #[.bool false, .int .i64 0, .slice none 0 0] 27
           have hlX : Wd.heap.size ≤ C2.heap.size := hlC
           have hC := hC.alloc (hC.size) (.cells #[.bool false, .int .i64 0, .slice none 0 0] 27)
           generalize hN : C2.alloc (.cells #[.bool false, .int .i64 0, .slice none 0 0] 27) = C8 at *
           clear hN
           have hL5 : C1.heap.size < C8.heap.size := by omega
           clear hbA hzC
           rw [q_step]
           simp only [List.getElem?_toArray, List.getElem?_cons_succ, List.getElem?_cons_zero]
           refine append_ints (v := vx) (xs := [] ++ M) (base := Wd.heap.size) (src := .slice (some ⟨C1.heap.size, 0, none⟩) 1 1) (l := [x]) rfl _ _ rfl rfl HO.out rfl (one_at x HX.out X5) (by simp; omega) (by exact hC.size) ?_
           intro vy C9 hoy hg _
           have hbA : Below Wd.heap.size C8 C9 := grown_own HO.out hg hC.size
           have XB := grown_keep hg XB (own_ne_val HO.out XB)
           have hC := hC.trans hbA
           have HY := Lib.hid (show IntsAt C9 vy (M ++ [x]) from by have := hoy.at HIN.out; simpa using this)
           clear hbA hg hoy HO X5
           refine And.intro (by first | exact (fun _ => HS.out _ hC) | exact HS.out _ hC) ?_
           simp only [Act.put, List.setIfInBounds_toArray, List.set_cons_zero, List.set_cons_succ]
           rw [q_step]
           simp only [List.getElem?_toArray, List.getElem?_cons_succ, List.getElem?_cons_zero]
           go_wp2_with fail
           refine (replay_any g (M ++ [x]) _ _ C9 (HG.out.ext (hBd.trans (hC.mono hBd.size))) HY.out).mono ?_
           rw [HP3.out, errV_ne (show (3 : Int) ≠ 0 by omega)]
           rintro _ C10 ⟨⟨rv, rfl, hrv⟩, hb5⟩
           obtain ⟨rl, rn, rk, rad, rcap, rfl⟩ := hrv.shape
           have XB := XB.ext hb5
           have hC := hC.trans (hb5.mono hC.size)
           clear hb5 hrv HY
           go_wp2_with fail
           refine And.intro (by first | exact (fun _ => HS.out _ hC) | exact HS.out _ hC) ?_
           iterate 3
             rw [q_take]
             simp only [List.getElem?_toArray, List.getElem?_cons_succ, List.getElem?_cons_zero]
             refine ⟨?_, .inl ⟨by rfl, ?_⟩, (HS.out _ hC), ?_⟩
             rotate_left
             · rintro w' _
               go_simp
               rfl
             simp only [Act.put, List.setIfInBounds_toArray, List.set_cons_zero, List.set_cons_succ]
           have hbx : Wd.heap.size ≤ C2.heap.size := hlX
           have h0 := XB.cell 0
           have h1 := XB.cell 1
           have h2 := XB.cell 2
           simp only [List.getElem?_toArray, List.getElem?_cons_succ, List.getElem?_cons_zero] at h0 h1 h2
           have u0 := XB.unfrozen 0
           have u1 := XB.unfrozen 1
           have u2 := XB.unfrozen 2
           rw [q_step]
           simp only [List.getElem?_toArray, List.getElem?_cons_succ, List.getElem?_cons_zero]
           go_wp2_with fail
           have hC := ((hC.setCell (p := ⟨C2.heap.size, 0, none⟩) hbx (.bool rl)).setCell (p := ⟨C2.heap.size, 1, none⟩) hbx (.int .i64 rn)).setCell (p := ⟨C2.heap.size, 2, none⟩) hbx (.slice rad rk rcap)
           clear h0 h1 h2 u0 u1 u2 XB
           refine And.intro (by first | exact (fun _ => HS.out _ hC) | exact HS.out _ hC) ?_
           rw [q_step]
           simp only [List.getElem?_toArray, List.getElem?_cons_succ, List.getElem?_cons_zero]
           go_wp2_with fail
           refine And.intro (fun h => absurd h (by decide)) ?_
           rw [q_done]
           generalize (((C10.setCell ⟨C2.heap.size, 0, none⟩ (.bool rl)).setCell ⟨C2.heap.size, 1, none⟩ (.int .i64 rn)).setCell ⟨C2.heap.size, 2, none⟩ (.slice rad rk rcap)) = WF at *
           go_wp2_with fail
           go_meet
           exact ⟨rfl, hWd.trans (hC.mono hWd.size)⟩
       ·
         rw [q_step]
         simp only [List.getElem?_toArray, List.getElem?_cons_succ, List.getElem?_cons_zero]
         go_wp2_with fail
         refine And.intro (by first | exact (fun _ => HS.out _ (hC.alloc (hC.size) _)) | exact HS.out _ (hC.alloc (hC.size) _)) ?_
         have hzC : C1.heap.size < (C1.alloc (.cells #[.bool false, .int .i64 0, .slice none 0 0] 27)).heap.size := by simp
         have hlC : Wd.heap.size ≤ C1.heap.size := hC.size
         have hbA : Below C1.heap.size C1 (C1.alloc (.cells #[.bool false, .int .i64 0, .slice none 0 0] 27)) := (Below.refl _ _).alloc (Nat.le_refl _) _
         have HO := Lib.hid (HO.out.kept hbA)
         have XB := Blk.new C1 #[.bool false, .int .i64 0, .slice none 0 0] 27
         have hlX : Wd.heap.size ≤ C1.heap.size := hlC
         have hC := hC.alloc (hC.size) (.cells #[.bool false, .int .i64 0, .slice none 0 0] 27)
         generalize hN : C1.alloc (.cells #[.bool false, .int .i64 0, .slice none 0 0] 27) = C11 at *
         clear hN
         clear hbA hzC
         rw [q_step]
         simp only [List.getElem?_toArray, List.getElem?_cons_succ, List.getElem?_cons_zero]
         go_wp2_with fail
         refine And.intro (by first | exact (fun _ => HS.out _ (hC.alloc (hC.size) _)) | exact HS.out _ (hC.alloc (hC.size) _)) ?_
         have hzC : C11.heap.size < (C11.alloc (.cells #[.int .i64 x] 3)).heap.size := by simp
         have hlC : Wd.heap.size ≤ C11.heap.size := hC.size
         have hbA : Below C11.heap.size C11 (C11.alloc (.cells #[.int .i64 x] 3)) := (Below.refl _ _).alloc (Nat.le_refl _) _
         have HO := Lib.hid (HO.out.kept hbA)
         have X5 := Blk.new C11 #[.int .i64 x] 3
         have XB := XB.ext hbA
         have hC := hC.alloc (hC.size) (.cells #[.int .i64 x] 3)
         generalize hN : C11.alloc (.cells #[.int .i64 x] 3) = C12 at *
         clear hN
         have hL5 : C11.heap.size < C12.heap.size := by omega
         clear hbA hzC
         rw [q_step]
         simp only [List.getElem?_toArray, List.getElem?_cons_succ, List.getElem?_cons_zero]
         refine append_ints (v := vx) (xs := [] ++ M) (base := Wd.heap.size) (src := .slice (some ⟨C11.heap.size, 0, none⟩) 1 1) (l := [x]) rfl _ _ rfl rfl HO.out rfl (one_at x HX.out X5) (by simp; omega) (by exact hC.size) ?_
         intro vy C13 hoy hg _
         have hbA : Below Wd.heap.size C12 C13 := grown_own HO.out hg hC.size
         have XB := grown_keep hg XB (own_ne_val HO.out XB)
         have hC := hC.trans hbA
         have HY := Lib.hid (show IntsAt C13 vy (M ++ [x]) from by have := hoy.at HIN.out; simpa using this)
         clear hbA hg hoy HO X5
         refine And.intro (by first | exact (fun _ => HS.out _ hC) | exact HS.out _ hC) ?_
         simp only [Act.put, List.setIfInBounds_toArray, List.set_cons_zero, List.set_cons_succ]
         rw [q_step]
         simp only [List.getElem?_toArray, List.getElem?_cons_succ, List.getElem?_cons_zero]
         go_wp2_with fail
         refine (replay_any g (M ++ [x]) _ _ C13 (HG.out.ext (hBd.trans (hC.mono hBd.size))) HY.out).mono ?_
         rw [HP3.out, errV_ne (show (3 : Int) ≠ 0 by omega)]
         rintro _ C14 ⟨⟨rv, rfl, hrv⟩, hb5⟩
         obtain ⟨rl, rn, rk, rad, rcap, rfl⟩ := hrv.shape
         have XB := XB.ext hb5
         have hC := hC.trans (hb5.mono hC.size)
         clear hb5 hrv HY
         go_wp2_with fail
         refine And.intro (by first | exact (fun _ => HS.out _ hC) | exact HS.out _ hC) ?_
         iterate 3
           rw [q_take]
           simp only [List.getElem?_toArray, List.getElem?_cons_succ, List.getElem?_cons_zero]
           refine ⟨?_, .inl ⟨by rfl, ?_⟩, (HS.out _ hC), ?_⟩
           rotate_left
           · rintro w' _
             go_simp
             rfl
           simp only [Act.put, List.setIfInBounds_toArray, List.set_cons_zero, List.set_cons_succ]
         have hbx : Wd.heap.size ≤ C1.heap.size := hlX
         have h0 := XB.cell 0
         have h1 := XB.cell 1
         have h2 := XB.cell 2
         simp only [List.getElem?_toArray, List.getElem?_cons_succ, List.getElem?_cons_zero] at h0 h1 h2
         have u0 := XB.unfrozen 0
         have u1 := XB.unfrozen 1
         have u2 := XB.unfrozen 2
         rw [q_step]
         simp only [List.getElem?_toArray, List.getElem?_cons_succ, List.getElem?_cons_zero]
         go_wp2_with fail
         have hC := ((hC.setCell (p := ⟨C1.heap.size, 0, none⟩) hbx (.bool rl)).setCell (p := ⟨C1.heap.size, 1, none⟩) hbx (.int .i64 rn)).setCell (p := ⟨C1.heap.size, 2, none⟩) hbx (.slice rad rk rcap)
         clear h0 h1 h2 u0 u1 u2 XB
         refine And.intro (by first | exact (fun _ => HS.out _ hC) | exact HS.out _ hC) ?_
         rw [q_step]
         simp only [List.getElem?_toArray, List.getElem?_cons_succ, List.getElem?_cons_zero]
         go_wp2_with fail
         refine And.intro (fun h => absurd h (by decide)) ?_
         rw [q_done]
         generalize (((C14.setCell ⟨C1.heap.size, 0, none⟩ (.bool rl)).setCell ⟨C1.heap.size, 1, none⟩ (.int .i64 rn)).setCell ⟨C1.heap.size, 2, none⟩ (.slice rad rk rcap)) = WF at *
         go_wp2_with fail
         go_meet
         exact ⟨rfl, hWd.trans (hC.mono hWd.size)⟩
     ·
       rw [q_step]
       simp only [List.getElem?_toArray, List.getElem?_cons_succ, List.getElem?_cons_zero]
       go_wp2_with fail
       refine And.intro (by first | exact (fun _ => HS.out _ (hC.alloc (hC.size) _)) | exact HS.out _ (hC.alloc (hC.size) _)) ?_
       have hzC : C0.heap.size < (C0.alloc (.cells #[.int .i64 x] 3)).heap.size := by simp
       have hlC : Wd.heap.size ≤ C0.heap.size := hC.size
       have hbA : Below C0.heap.size C0 (C0.alloc (.cells #[.int .i64 x] 3)) := (Below.refl _ _).alloc (Nat.le_refl _) _
       have HO := Lib.hid (HO.out.kept hbA)
       have X5 := Blk.new C0 #[.int .i64 x] 3
       have hC := hC.alloc (hC.size) (.cells #[.int .i64 x] 3)
       generalize hN : C0.alloc (.cells #[.int .i64 x] 3) = C15 at *
       clear hN
       have hne5 : C0.heap.size ≠ Wd.heap.size := by have := hL1; omega
       have hL1 : Wd.heap.size < C15.heap.size := by omega
       have hL5 : C0.heap.size < C15.heap.size := by omega
       clear hbA hzC
       rw [q_fork]
       refine ⟨?_, ?_⟩
       ·
         rw [q_step]
         simp only [List.getElem?_toArray, List.getElem?_cons_succ, List.getElem?_cons_zero]
         refine append_ints (v := .slice (some ⟨Wd.heap.size, 0, none⟩) 0 0) (xs := []) (base := Wd.heap.size) (src := .slice mad M.length mcap) (l := M) rfl _ _ rfl rfl HO.out rfl (HMd.out.ext hC) (by simp; omega) (by exact hC.size) ?_
         intro vx C16 hox hg _
         have hbA : Below Wd.heap.size C15 C16 := grown_own HO.out hg hC.size
         have X5 := grown_keep hg X5 (fun e => hne5 (by simpa [Value.ownBlock] using e.symm))
         have hC := hC.trans hbA
         have HO := Lib.hid hox
         clear hbA hg hox
         refine And.intro (by first | exact (fun _ => HS.out _ hC) | exact HS.out _ hC) ?_
         simp only [Act.put, List.setIfInBounds_toArray, List.set_cons_zero, List.set_cons_succ]
         have hL5 : C0.heap.size < C16.heap.size := X5.lt
         rw [q_fork]
         refine ⟨?_, ?_⟩
         ·
           rw [q_step]
           simp only [List.getElem?_toArray, List.getElem?_cons_succ, List.getElem?_cons_zero]
           refine append_ints (v := vx) (xs := [] ++ M) (base := Wd.heap.size) (src := .slice (some ⟨C0.heap.size, 0, none⟩) 1 1) (l := [x]) rfl _ _ rfl rfl HO.out rfl (one_at x HX.out X5) (by simp; omega) (by exact hC.size) ?_
           intro vy C17 hoy hg _
           have hbA : Below Wd.heap.size C16 C17 := grown_own HO.out hg hC.size
           have hC := hC.trans hbA
           have HY := Lib.hid (show IntsAt C17 vy (M ++ [x]) from by have := hoy.at HIN.out; simpa using this)
           clear hbA hg hoy HO X5
           refine And.intro (by first | exact (fun _ => HS.out _ hC) | exact HS.out _ hC) ?_
           simp only [Act.put, List.setIfInBounds_toArray, List.set_cons_zero, List.set_cons_succ]
           rw [q_fork]
           refine ⟨?_, ?_⟩
           ·
             rw [q_step]
             simp only [List.getElem?_toArray, List.getElem?_cons_succ, List.getElem?_cons_zero]
             go_wp2_with fail
             refine (replay_any g (M ++ [x]) _ _ C17 (HG.out.ext (hBd.trans (hC.mono hBd.size))) HY.out).mono ?_
             rw [HP3.out, errV_ne (show (3 : Int) ≠ 0 by omega)]
             rintro _ C18 ⟨⟨rv, rfl, hrv⟩, hb5⟩
             obtain ⟨rl, rn, rk, rad, rcap, rfl⟩ := hrv.shape
             have hC := hC.trans (hb5.mono hC.size)
             clear hb5 hrv HY
             go_wp2_with fail
             refine And.intro (by first | exact (fun _ => HS.out _ hC) | exact HS.out _ hC) ?_
             iterate 3
               rw [q_take]
               simp only [List.getElem?_toArray, List.getElem?_cons_succ, List.getElem?_cons_zero]
               refine ⟨?_, .inl ⟨by rfl, ?_⟩, (HS.out _ hC), ?_⟩
               rotate_left
               · rintro w' _
                 go_simp
                 rfl
               simp only [Act.put, List.setIfInBounds_toArray, List.set_cons_zero, List.set_cons_succ]
             rw [q_step]
             simp only [List.getElem?_toArray, List.getElem?_cons_succ, List.getElem?_cons_zero]
             go_wp2_with fail
             refine And.intro (by first | exact (fun _ => HS.out _ (hC.alloc (hC.size) _)) | exact HS.out _ (hC.alloc (hC.size) _)) ?_
             have hlX : Wd.heap.size ≤ C18.heap.size := hC.size
             have XB := Blk.new C18 #[.bool false, .int .i64 0, .slice none 0 0] 27
             have hC := hC.alloc (hC.size) (.cells #[.bool false, .int .i64 0, .slice none 0 0] 27)
             generalize hN : C18.alloc (.cells #[.bool false, .int .i64 0, .slice none 0 0] 27) = C19 at *
             clear hN
             have hbx : Wd.heap.size ≤ C18.heap.size := hlX
             have h0 := XB.cell 0
             have h1 := XB.cell 1
             have h2 := XB.cell 2
             simp only [List.getElem?_toArray, List.getElem?_cons_succ, List.getElem?_cons_zero] at h0 h1 h2
             have u0 := XB.unfrozen 0
             have u1 := XB.unfrozen 1
             have u2 := XB.unfrozen 2
             rw [q_step]
             simp only [List.getElem?_toArray, List.getElem?_cons_succ, List.getElem?_cons_zero]
             go_wp2_with fail
             have hC := ((hC.setCell (p := ⟨C18.heap.size, 0, none⟩) hbx (.bool rl)).setCell (p := ⟨C18.heap.size, 1, none⟩) hbx (.int .i64 rn)).setCell (p := ⟨C18.heap.size, 2, none⟩) hbx (.slice rad rk rcap)
             clear h0 h1 h2 u0 u1 u2 XB
             refine And.intro (by first | exact (fun _ => HS.out _ hC) | exact HS.out _ hC) ?_
             rw [q_step]
             simp only [List.getElem?_toArray, List.getElem?_cons_succ, List.getElem?_cons_zero]
             go_wp2_with fail
             refine And.intro (fun h => absurd h (by decide)) ?_
             rw [q_done]
             generalize (((C19.setCell ⟨C18.heap.size, 0, none⟩ (.bool rl)).setCell ⟨C18.heap.size, 1, none⟩ (.int .i64 rn)).setCell ⟨C18.heap.size, 2, none⟩ (.slice rad rk rcap)) = WF at *
             go_wp2_with fail
             go_meet
             exact ⟨rfl, hWd.trans (hC.mono hWd.size)⟩
           ·
             rw [q_step]
             simp only [List.getElem?_toArray, List.getElem?_cons_succ, List.getElem?_cons_zero]
             go_wp2_with fail
             refine And.intro (by first | exact (fun _ => HS.out _ (hC.alloc (hC.size) _)) | exact HS.out _ (hC.alloc (hC.size) _)) ?_
             have hzC : C17.heap.size < (C17.alloc (.cells #[.bool false, .int .i64 0, .slice none 0 0] 27)).heap.size := by simp
             have hlC : Wd.heap.size ≤ C17.heap.size := hC.size
             have hbA : Below C17.heap.size C17 (C17.alloc (.cells #[.bool false, .int .i64 0, .slice none 0 0] 27)) := (Below.refl _ _).alloc (Nat.le_refl _) _
             have HY := Lib.hid (HY.out.ext hbA)
             have XB := Blk.new C17 #[.bool false, .int .i64 0, .slice none 0 0] 27
             have hlX : Wd.heap.size ≤ C17.heap.size := hlC
             have hC := hC.alloc (hC.size) (.cells #[.bool false, .int .i64 0, .slice none 0 0] 27)
             generalize hN : C17.alloc (.cells #[.bool false, .int .i64 0, .slice none 0 0] 27) = C20 at *
             clear hN
             clear hbA hzC
             rw [q_step]
             simp only [List.getElem?_toArray, List.getElem?_cons_succ, List.getElem?_cons_zero]
             go_wp2_with fail
             refine (replay_any g (M ++ [x]) _ _ C20 (HG.out.ext (hBd.trans (hC.mono hBd.size))) HY.out).mono ?_
             rw [HP3.out, errV_ne (show (3 : Int) ≠ 0 by omega)]
             rintro _ C21 ⟨⟨rv, rfl, hrv⟩, hb5⟩
             obtain ⟨rl, rn, rk, rad, rcap, rfl⟩ := hrv.shape
             have XB := XB.ext hb5
             have hC := hC.trans (hb5.mono hC.size)
             clear hb5 hrv HY
             go_wp2_with fail
             refine And.intro (by first | exact (fun _ => HS.out _ hC) | exact HS.out _ hC) ?_
             iterate 3
               rw [q_take]
               simp only [List.getElem?_toArray, List.getElem?_cons_succ, List.getElem?_cons_zero]
               refine ⟨?_, .inl ⟨by rfl, ?_⟩, (HS.out _ hC), ?_⟩
               rotate_left
               · rintro w' _
                 go_simp
                 rfl
               simp only [Act.put, List.setIfInBounds_toArray, List.set_cons_zero, List.set_cons_succ]
             have hbx : Wd.heap.size ≤ C17.heap.size := hlX
             have h0 := XB.cell 0
             have h1 := XB.cell 1
             have h2 := XB.cell 2
             simp only [List.getElem?_toArray, List.getElem?_cons_succ, List.getElem?_cons_zero] at h0 h1 h2
             have u0 := XB.unfrozen 0
             have u1 := XB.unfrozen 1
             have u2 := XB.unfrozen 2
             rw [q_step]
             simp only [List.getElem?_toArray, List.getElem?_cons_succ, List.getElem?_cons_zero]
             go_wp2_with fail
             have hC := ((hC.setCell (p := ⟨C17.heap.size, 0, none⟩) hbx (.bool rl)).setCell (p := ⟨C17.heap.size, 1, none⟩) hbx (.int .i64 rn)).setCell (p := ⟨C17.heap.size, 2, none⟩) hbx (.slice rad rk rcap)
             clear h0 h1 h2 u0 u1 u2 XB
             refine And.intro (by first | exact (fun _ => HS.out _ hC) | exact HS.out _ hC) ?_
             rw [q_step]
             simp only [List.getElem?_toArray, List.getElem?_cons_succ, List.getElem?_cons_zero]
             go_wp2_with fail
             refine And.intro (fun h => absurd h (by decide)) ?_
             rw [q_done]
             generalize (((C21.setCell ⟨C17.heap.size, 0, none⟩ (.bool rl)).setCell ⟨C17.heap.size, 1, none⟩ (.int .i64 rn)).setCell ⟨C17.heap.size, 2, none⟩ (.slice rad rk rcap)) = WF at *
             go_wp2_with fail
             go_meet
             exact ⟨rfl, hWd.trans (hC.mono hWd.size)⟩
         ·
           rw [q_step]
           simp only [List.getElem?_toArray, List.getElem?_cons_succ, List.getElem?_cons_zero]
           go_wp2_with fail
           refine And.intro (by first | exact (fun _ => HS.out _ (hC.alloc (hC.size) _)) | exact HS.out _ (hC.alloc (hC.size) _)) ?_
           have hzC : C16.heap.size < (C16.alloc (.cells #[.bool false, .int .i64 0, .slice none 0 0] 27)).heap.size := by simp
           have hlC : Wd.heap.size ≤ C16.heap.size := hC.size
           have hbA : Below C16.heap.size C16 (C16.alloc (.cells #[.bool false, .int .i64 0, .slice none 0 0] 27)) := (Below.refl _ _).alloc (Nat.le_refl _) _
           have HO := Lib.hid (HO.out.kept hbA)
           have X5 := X5.ext hbA
           have XB := Blk.new C16 #[.bool false, .int .i64 0, .slice none 0 0] 27
           have hlX : Wd.heap.size ≤ C16.heap.size := hlC
           have hC := hC.alloc (hC.size) (.cells #[.bool false, .int .i64 0, .slice none 0 0] 27)
           generalize hN : C16.alloc (.cells #[.bool false, .int .i64 0, .slice none 0 0] 27) = C22 at *
           clear hN
           have hL5 : C0.heap.size < C22.heap.size := by omega
           clear hbA hzC
           rw [q_step]
           simp only [List.getElem?_toArray, List.getElem?_cons_succ, List.getElem?_cons_zero]
           refine append_ints (v := vx) (xs := [] ++ M) (base := Wd.heap.size) (src := .slice (some ⟨C0.heap.size, 0, none⟩) 1 1) (l := [x]) rfl _ _ rfl rfl HO.out rfl (one_at x HX.out X5) (by simp; omega) (by exact hC.size) ?_
           intro vy C23 hoy hg _
           have hbA : Below Wd.heap.size C22 C23 := grown_own HO.out hg hC.size
           have XB := grown_keep hg XB (own_ne_val HO.out XB)
           have hC := hC.trans hbA
           have HY := Lib.hid (show IntsAt C23 vy (M ++ [x]) from by have := hoy.at HIN.out; simpa using this)
           clear hbA hg hoy HO X5
           refine And.intro (by first | exact (fun _ => HS.out _ hC) | exact HS.out _ hC) ?_
           simp only [Act.put, List.setIfInBounds_toArray, List.set_cons_zero, List.set_cons_succ]
           rw [q_step]
           simp only [List.getElem?_toArray, List.getElem?_cons_succ, List.getElem?_cons_zero]
           go_wp2_with fail
           refine (replay_any g (M ++ [x]) _ _ C23 (HG.out.ext (hBd.trans (hC.mono hBd.size))) HY.out).mono ?_
           rw [HP3.out, errV_ne (show (3 : Int) ≠ 0 by omega)]
           rintro _ C24 ⟨⟨rv, rfl, hrv⟩, hb5⟩
           obtain ⟨rl, rn, rk, rad, rcap, rfl⟩ := hrv.shape
           have XB := XB.ext hb5
           have hC := hC.trans (hb5.mono hC.size)
           clear hb5 hrv HY
           go_wp2_with fail
           refine And.intro (by first | exact (fun _ => HS.out _ hC) | exact HS.out _ hC) ?_
           iterate 3
             rw [q_take]
             simp only [List.getElem?_toArray, List.getElem?_cons_succ, List.getElem?_cons_zero]
             refine ⟨?_, .inl ⟨by rfl, ?_⟩, (HS.out _ hC), ?_⟩
             rotate_left
             · rintro w' _
               go_simp
               rfl
             simp only [Act.put, List.setIfInBounds_toArray, List.set_cons_zero, List.set_cons_succ]
           have hbx : Wd.heap.size ≤ C16.heap.size := hlX
           have h0 := XB.cell 0
           have h1 := XB.cell 1
           have h2 := XB.cell 2
           simp only [List.getElem?_toArray, List.getElem?_cons_succ, List.getElem?_cons_zero] at h0 h1 h2
           have u0 := XB.unfrozen 0
           have u1 := XB.unfrozen 1
           have u2 := XB.unfrozen 2
           rw [q_step]
           simp only [List.getElem?_toArray, List.getElem?_cons_succ, List.getElem?_cons_zero]
           go_wp2_with fail
           have hC := ((hC.setCell (p := ⟨C16.heap.size, 0, none⟩) hbx (.bool rl)).setCell (p := ⟨C16.heap.size, 1, none⟩) hbx (.int .i64 rn)).setCell (p := ⟨C16.heap.size, 2, none⟩) hbx (.slice rad rk rcap)
           clear h0 h1 h2 u0 u1 u2 XB
           refine And.intro (by first | exact (fun _ => HS.out _ hC) | exact HS.out _ hC) ?_
           rw [q_step]
           simp only [List.getElem?_toArray, List.getElem?_cons_succ, List.getElem?_cons_zero]
           go_wp2_with fail
           refine And.intro (fun h => absurd h (by decide)) ?_
           rw [q_done]
           generalize (((C24.setCell ⟨C16.heap.size, 0, none⟩ (.bool rl)).setCell ⟨C16.heap.size, 1, none⟩ (.int .i64 rn)).setCell ⟨C16.heap.size, 2, none⟩ (.slice rad rk rcap)) = WF at *
           go_wp2_with fail
           go_meet
           exact ⟨rfl, hWd.trans (hC.mono hWd.size)⟩
       ·
         rw [q_step]
         simp only [List.getElem?_toArray, List.getElem?_cons_succ, List.getElem?_cons_zero]
         go_wp2_with fail
         refine And.intro (by first | exact (fun _ => HS.out _ (hC.alloc (hC.size) _)) | exact HS.out _ (hC.alloc (hC.size) _)) ?_
         have hzC : C15.heap.size < (C15.alloc (.cells #[.bool false, .int .i64 0, .slice none 0 0] 27)).heap.size := by simp
         have hlC : Wd.heap.size ≤ C15.heap.size := hC.size
         have hbA : Below C15.heap.size C15 (C15.alloc (.cells #[.bool false, .int .i64 0, .slice none 0 0] 27)) := (Below.refl _ _).alloc (Nat.le_refl _) _
         have HO := Lib.hid (HO.out.kept hbA)
         have X5 := X5.ext hbA
         have XB := Blk.new C15 #[.bool false, .int .i64 0, .slice none 0 0] 27
         have hlX : Wd.heap.size ≤ C15.heap.size := hlC
         have hC := hC.alloc (hC.size) (.cells #[.bool false, .int .i64 0, .slice none 0 0] 27)
         generalize hN : C15.alloc (.cells #[.bool false, .int .i64 0, .slice none 0 0] 27) = C25 at *
         clear hN
         have hL1 : Wd.heap.size < C25.heap.size := by omega
         have hL5 : C0.heap.size < C25.heap.size := by omega
         clear hbA hzC
         rw [q_step]
         simp only [List.getElem?_toArray, List.getElem?_cons_succ, List.getElem?_cons_zero]
         refine append_ints (v := .slice (some ⟨Wd.heap.size, 0, none⟩) 0 0) (xs := []) (base := Wd.heap.size) (src := .slice mad M.length mcap) (l := M) rfl _ _ rfl rfl HO.out rfl (HMd.out.ext hC) (by simp; omega) (by exact hC.size) ?_
         intro vx C26 hox hg _
         have hbA : Below Wd.heap.size C25 C26 := grown_own HO.out hg hC.size
         have XB := grown_keep hg XB (own_ne_val HO.out XB)
         have X5 := grown_keep hg X5 (fun e => hne5 (by simpa [Value.ownBlock] using e.symm))
         have hC := hC.trans hbA
         have HO := Lib.hid hox
         clear hbA hg hox
         refine And.intro (by first | exact (fun _ => HS.out _ hC) | exact HS.out _ hC) ?_
         simp only [Act.put, List.setIfInBounds_toArray, List.set_cons_zero, List.set_cons_succ]
         have hL5 : C0.heap.size < C26.heap.size := X5.lt
         rw [q_step]
         simp only [List.getElem?_toArray, List.getElem?_cons_succ, List.getElem?_cons_zero]
         refine append_ints (v := vx) (xs := [] ++ M) (base := Wd.heap.size) (src := .slice (some ⟨C0.heap.size, 0, none⟩) 1 1) (l := [x]) rfl _ _ rfl rfl HO.out rfl (one_at x HX.out X5) (by simp; omega) (by exact hC.size) ?_
         intro vy C27 hoy hg _
         have hbA : Below Wd.heap.size C26 C27 := grown_own HO.out hg hC.size
         have XB := grown_keep hg XB (own_ne_val HO.out XB)
         have hC := hC.trans hbA
         have HY := Lib.hid (show IntsAt C27 vy (M ++ [x]) from by have := hoy.at HIN.out; simpa using this)
         clear hbA hg hoy HO X5
         refine And.intro (by first | exact (fun _ => HS.out _ hC) | exact HS.out _ hC) ?_
         simp only [Act.put, List.setIfInBounds_toArray, List.set_cons_zero, List.set_cons_succ]
         rw [q_step]
         simp only [List.getElem?_toArray, List.getElem?_cons_succ, List.getElem?_cons_zero]
         go_wp2_with fail
         refine (replay_any g (M ++ [x]) _ _ C27 (HG.out.ext (hBd.trans (hC.mono hBd.size))) HY.out).mono ?_
         rw [HP3.out, errV_ne (show (3 : Int) ≠ 0 by omega)]
         rintro _ C28 ⟨⟨rv, rfl, hrv⟩, hb5⟩
         obtain ⟨rl, rn, rk, rad, rcap, rfl⟩ := hrv.shape
         have XB := XB.ext hb5
         have hC := hC.trans (hb5.mono hC.size)
         clear hb5 hrv HY
         go_wp2_with fail
         refine And.intro (by first | exact (fun _ => HS.out _ hC) | exact HS.out _ hC) ?_
         iterate 3
           rw [q_take]
           simp only [List.getElem?_toArray, List.getElem?_cons_succ, List.getElem?_cons_zero]
           refine ⟨?_, .inl ⟨by rfl, ?_⟩, (HS.out _ hC), ?_⟩
           rotate_left
           · rintro w' _
             go_simp
             rfl
           simp only [Act.put, List.setIfInBounds_toArray, List.set_cons_zero, List.set_cons_succ]
         have hbx : Wd.heap.size ≤ C15.heap.size := hlX
         have h0 := XB.cell 0
         have h1 := XB.cell 1
         have h2 := XB.cell 2
         simp only [List.getElem?_toArray, List.getElem?_cons_succ, List.getElem?_cons_zero] at h0 h1 h2
         have u0 := XB.unfrozen 0
         have u1 := XB.unfrozen 1
         have u2 := XB.unfrozen 2
         rw [q_step]
         simp only [List.getElem?_toArray, List.getElem?_cons_succ, List.getElem?_cons_zero]
         go_wp2_with fail
         have hC := ((hC.setCell (p := ⟨C15.heap.size, 0, none⟩) hbx (.bool rl)).setCell (p := ⟨C15.heap.size, 1, none⟩) hbx (.int .i64 rn)).setCell (p := ⟨C15.heap.size, 2, none⟩) hbx (.slice rad rk rcap)
         clear h0 h1 h2 u0 u1 u2 XB
         refine And.intro (by first | exact (fun _ => HS.out _ hC) | exact HS.out _ hC) ?_
         rw [q_step]
         simp only [List.getElem?_toArray, List.getElem?_cons_succ, List.getElem?_cons_zero]
         go_wp2_with fail
         refine And.intro (fun h => absurd h (by decide)) ?_
         rw [q_done]
         generalize (((C28.setCell ⟨C15.heap.size, 0, none⟩ (.bool rl)).setCell ⟨C15.heap.size, 1, none⟩ (.int .i64 rn)).setCell ⟨C15.heap.size, 2, none⟩ (.slice rad rk rcap)) = WF at *
         go_wp2_with fail
         go_meet
         exact ⟨rfl, hWd.trans (hC.mono hWd.size)⟩
     ·
       rw [q_step]
       simp only [List.getElem?_toArray, List.getElem?_cons_succ, List.getElem?_cons_zero]
       go_wp2_with fail
       refine And.intro (by first | exact (fun _ => HS.out _ (hC.alloc (hC.size) _)) | exact HS.out _ (hC.alloc (hC.size) _)) ?_
       have hzC : C0.heap.size < (C0.alloc (.cells #[.bool false, .int .i64 0, .slice none 0 0] 27)).heap.size := by simp
       have hlC : Wd.heap.size ≤ C0.heap.size := hC.size
       have hbA : Below C0.heap.size C0 (C0.alloc (.cells #[.bool false, .int .i64 0, .slice none 0 0] 27)) := (Below.refl _ _).alloc (Nat.le_refl _) _
       have HO := Lib.hid (HO.out.kept hbA)
       have XB := Blk.new C0 #[.bool false, .int .i64 0, .slice none 0 0] 27
       have hlX : Wd.heap.size ≤ C0.heap.size := hlC
       have hC := hC.alloc (hC.size) (.cells #[.bool false, .int .i64 0, .slice none 0 0] 27)
       generalize hN : C0.alloc (.cells #[.bool false, .int .i64 0, .slice none 0 0] 27) = C29 at *
       clear hN
       have hL1 : Wd.heap.size < C29.heap.size := by omega
       clear hbA hzC
       rw [q_fork]
       refine ⟨?_, ?_⟩
       ·
         rw [q_step]
         simp only [List.getElem?_toArray, List.getElem?_cons_succ, List.getElem?_cons_zero]
         refine append_ints (v := .slice (some ⟨Wd.heap.size, 0, none⟩) 0 0) (xs := []) (base := Wd.heap.size) (src := .slice mad M.length mcap) (l := M) rfl _ _ rfl rfl HO.out rfl (HMd.out.ext hC) (by simp; omega) (by exact hC.size) ?_
         intro vx C30 hox hg _
         have hbA : Below Wd.heap.size C29 C30 := grown_own HO.out hg hC.size
         have XB := grown_keep hg XB (own_ne_val HO.out XB)
         have hC := hC.trans hbA
         have HO := Lib.hid hox
         clear hbA hg hox
         refine And.intro (by first | exact (fun _ => HS.out _ hC) | exact HS.out _ hC) ?_
         simp only [Act.put, List.setIfInBounds_toArray, List.set_cons_zero, List.set_cons_succ]
         rw [q_step]
         simp only [List.getElem?_toArray, List.getElem?_cons_succ, List.getElem?_cons_zero]
         go_wp2_with fail
         refine And.intro (by first | exact (fun _ => HS.out _ (hC.alloc (hC.size) _)) | exact HS.out _ (hC.alloc (hC.size) _)) ?_
         have hzC : C30.heap.size < (C30.alloc (.cells #[.int .i64 x] 3)).heap.size := by simp
         have hlC : Wd.heap.size ≤ C30.heap.size := hC.size
         have hbA : Below C30.heap.size C30 (C30.alloc (.cells #[.int .i64 x] 3)) := (Below.refl _ _).alloc (Nat.le_refl _) _
         have HO := Lib.hid (HO.out.kept hbA)
         have X5 := Blk.new C30 #[.int .i64 x] 3
         have XB := XB.ext hbA
         have hC := hC.alloc (hC.size) (.cells #[.int .i64 x] 3)
         generalize hN : C30.alloc (.cells #[.int .i64 x] 3) = C31 at *
         clear hN
         have hL5 : C30.heap.size < C31.heap.size := by omega
         clear hbA hzC
         rw [q_step]
         simp only [List.getElem?_toArray, List.getElem?_cons_succ, List.getElem?_cons_zero]
         refine append_ints (v := vx) (xs := [] ++ M) (base := Wd.heap.size) (src := .slice (some ⟨C30.heap.size, 0, none⟩) 1 1) (l := [x]) rfl _ _ rfl rfl HO.out rfl (one_at x HX.out X5) (by simp; omega) (by exact hC.size) ?_
         intro vy C32 hoy hg _
         have hbA : Below Wd.heap.size C31 C32 := grown_own HO.out hg hC.size
         have XB := grown_keep hg XB (own_ne_val HO.out XB)
         have hC := hC.trans hbA
         have HY := Lib.hid (show IntsAt C32 vy (M ++ [x]) from by have := hoy.at HIN.out; simpa using this)
         clear hbA hg hoy HO X5
         refine And.intro (by first | exact (fun _ => HS.out _ hC) | exact HS.out _ hC) ?_
         simp only [Act.put, List.setIfInBounds_toArray, List.set_cons_zero, List.set_cons_succ]
         rw [q_step]
         simp only [List.getElem?_toArray, List.getElem?_cons_succ, List.getElem?_cons_zero]
         go_wp2_with fail
         refine (replay_any g (M ++ [x]) _ _ C32 (HG.out.ext (hBd.trans (hC.mono hBd.size))) HY.out).mono ?_
         rw [HP3.out, errV_ne (show (3 : Int) ≠ 0 by omega)]
         rintro _ C33 ⟨⟨rv, rfl, hrv⟩, hb5⟩
         obtain ⟨rl, rn, rk, rad, rcap, rfl⟩ := hrv.shape
         have XB := XB.ext hb5
         have hC := hC.trans (hb5.mono hC.size)
         clear hb5 hrv HY
         go_wp2_with fail
         refine And.intro (by first | exact (fun _ => HS.out _ hC) | exact HS.out _ hC) ?_
         iterate 3
           rw [q_take]
           simp only [List.getElem?_toArray, List.getElem?_cons_succ, List.getElem?_cons_zero]
           refine ⟨?_, .inl ⟨by rfl, ?_⟩, (HS.out _ hC), ?_⟩
           rotate_left
           · rintro w' _
             go_simp
             rfl
           simp only [Act.put, List.setIfInBounds_toArray, List.set_cons_zero, List.set_cons_succ]
         have hbx : Wd.heap.size ≤ C0.heap.size := hlX
         have h0 := XB.cell 0
         have h1 := XB.cell 1
         have h2 := XB.cell 2
         simp only [List.getElem?_toArray, List.getElem?_cons_succ, List.getElem?_cons_zero] at h0 h1 h2
         have u0 := XB.unfrozen 0
         have u1 := XB.unfrozen 1
         have u2 := XB.unfrozen 2
         rw [q_step]
         simp only [List.getElem?_toArray, List.getElem?_cons_succ, List.getElem?_cons_zero]
         go_wp2_with fail
         have hC := ((hC.setCell (p := ⟨C0.heap.size, 0, none⟩) hbx (.bool rl)).setCell (p := ⟨C0.heap.size, 1, none⟩) hbx (.int .i64 rn)).setCell (p := ⟨C0.heap.size, 2, none⟩) hbx (.slice rad rk rcap)
         clear h0 h1 h2 u0 u1 u2 XB
         refine And.intro (by first | exact (fun _ => HS.out _ hC) | exact HS.out _ hC) ?_
         rw [q_step]
         simp only [List.getElem?_toArray, List.getElem?_cons_succ, List.getElem?_cons_zero]
         go_wp2_with fail
         refine And.intro (fun h => absurd h (by decide)) ?_
         rw [q_done]
         generalize (((C33.setCell ⟨C0.heap.size, 0, none⟩ (.bool rl)).setCell ⟨C0.heap.size, 1, none⟩ (.int .i64 rn)).setCell ⟨C0.heap.size, 2, none⟩ (.slice rad rk rcap)) = WF at *
         go_wp2_with fail
         go_meet
         exact ⟨rfl, hWd.trans (hC.mono hWd.size)⟩
       ·
         rw [q_step]
         simp only [List.getElem?_toArray, List.getElem?_cons_succ, List.getElem?_cons_zero]
         go_wp2_with fail
         refine And.intro (by first | exact (fun _ => HS.out _ (hC.alloc (hC.size) _)) | exact HS.out _ (hC.alloc (hC.size) _)) ?_
         have hzC : C29.heap.size < (C29.alloc (.cells #[.int .i64 x] 3)).heap.size := by simp
         have hlC : Wd.heap.size ≤ C29.heap.size := hC.size
         have hbA : Below C29.heap.size C29 (C29.alloc (.cells #[.int .i64 x] 3)) := (Below.refl _ _).alloc (Nat.le_refl _) _
         have HO := Lib.hid (HO.out.kept hbA)
         have X5 := Blk.new C29 #[.int .i64 x] 3
         have XB := XB.ext hbA
         have hC := hC.alloc (hC.size) (.cells #[.int .i64 x] 3)
         generalize hN : C29.alloc (.cells #[.int .i64 x] 3) = C34 at *
         clear hN
         have hne5 : C29.heap.size ≠ Wd.heap.size := by have := hL1; omega
         have hL1 : Wd.heap.size < C34.heap.size := by omega
         have hL5 : C29.heap.size < C34.heap.size := by omega
         clear hbA hzC
         rw [q_step]
         simp only [List.getElem?_toArray, List.getElem?_cons_succ, List.getElem?_cons_zero]
         refine append_ints (v := .slice (some ⟨Wd.heap.size, 0, none⟩) 0 0) (xs := []) (base := Wd.heap.size) (src := .slice mad M.length mcap) (l := M) rfl _ _ rfl rfl HO.out rfl (HMd.out.ext hC) (by simp; omega) (by exact hC.size) ?_
         intro vx C35 hox hg _
         have hbA : Below Wd.heap.size C34 C35 := grown_own HO.out hg hC.size
         have XB := grown_keep hg XB (own_ne_val HO.out XB)
         have X5 := grown_keep hg X5 (fun e => hne5 (by simpa [Value.ownBlock] using e.symm))
         have hC := hC.trans hbA
         have HO := Lib.hid hox
         clear hbA hg hox
         refine And.intro (by first | exact (fun _ => HS.out _ hC) | exact HS.out _ hC) ?_
         simp only [Act.put, List.setIfInBounds_toArray, List.set_cons_zero, List.set_cons_succ]
         have hL5 : C29.heap.size < C35.heap.size := X5.lt
         rw [q_step]
         simp only [List.getElem?_toArray, List.getElem?_cons_succ, List.getElem?_cons_zero]
         refine append_ints (v := vx) (xs := [] ++ M) (base := Wd.heap.size) (src := .slice (some ⟨C29.heap.size, 0, none⟩) 1 1) (l := [x]) rfl _ _ rfl rfl HO.out rfl (one_at x HX.out X5) (by simp; omega) (by exact hC.size) ?_
         intro vy C36 hoy hg _
         have hbA : Below Wd.heap.size C35 C36 := grown_own HO.out hg hC.size
         have XB := grown_keep hg XB (own_ne_val HO.out XB)
         have hC := hC.trans hbA
         have HY := Lib.hid (show IntsAt C36 vy (M ++ [x]) from by have := hoy.at HIN.out; simpa using this)
         clear hbA hg hoy HO X5
         refine And.intro (by first | exact (fun _ => HS.out _ hC) | exact HS.out _ hC) ?_
         simp only [Act.put, List.setIfInBounds_toArray, List.set_cons_zero, List.set_cons_succ]
         rw [q_step]
         simp only [List.getElem?_toArray, List.getElem?_cons_succ, List.getElem?_cons_zero]
         go_wp2_with fail
         refine (replay_any g (M ++ [x]) _ _ C36 (HG.out.ext (hBd.trans (hC.mono hBd.size))) HY.out).mono ?_
         rw [HP3.out, errV_ne (show (3 : Int) ≠ 0 by omega)]
         rintro _ C37 ⟨⟨rv, rfl, hrv⟩, hb5⟩
         obtain ⟨rl, rn, rk, rad, rcap, rfl⟩ := hrv.shape
         have XB := XB.ext hb5
         have hC := hC.trans (hb5.mono hC.size)
         clear hb5 hrv HY
         go_wp2_with fail
         refine And.intro (by first | exact (fun _ => HS.out _ hC) | exact HS.out _ hC) ?_
         iterate 3
           rw [q_take]
           simp only [List.getElem?_toArray, List.getElem?_cons_succ, List.getElem?_cons_zero]
           refine ⟨?_, .inl ⟨by rfl, ?_⟩, (HS.out _ hC), ?_⟩
           rotate_left
           · rintro w' _
             go_simp
             rfl
           simp only [Act.put, List.setIfInBounds_toArray, List.set_cons_zero, List.set_cons_succ]
         have hbx : Wd.heap.size ≤ C0.heap.size := hlX
         have h0 := XB.cell 0
         have h1 := XB.cell 1
         have h2 := XB.cell 2
         simp only [List.getElem?_toArray, List.getElem?_cons_succ, List.getElem?_cons_zero] at h0 h1 h2
         have u0 := XB.unfrozen 0
         have u1 := XB.unfrozen 1
         have u2 := XB.unfrozen 2
         rw [q_step]
         simp only [List.getElem?_toArray, List.getElem?_cons_succ, List.getElem?_cons_zero]
         go_wp2_with fail
         have hC := ((hC.setCell (p := ⟨C0.heap.size, 0, none⟩) hbx (.bool rl)).setCell (p := ⟨C0.heap.size, 1, none⟩) hbx (.int .i64 rn)).setCell (p := ⟨C0.heap.size, 2, none⟩) hbx (.slice rad rk rcap)
         clear h0 h1 h2 u0 u1 u2 XB
         refine And.intro (by first | exact (fun _ => HS.out _ hC) | exact HS.out _ hC) ?_
         rw [q_step]
         simp only [List.getElem?_toArray, List.getElem?_cons_succ, List.getElem?_cons_zero]
         go_wp2_with fail
         refine And.intro (fun h => absurd h (by decide)) ?_
         rw [q_done]
         generalize (((C37.setCell ⟨C0.heap.size, 0, none⟩ (.bool rl)).setCell ⟨C0.heap.size, 1, none⟩ (.int .i64 rn)).setCell ⟨C0.heap.size, 2, none⟩ (.slice rad rk rcap)) = WF at *
         go_wp2_with fail
         go_meet
         exact ⟨rfl, hWd.trans (hC.mono hWd.size)⟩
   ·
     rw [q_step]
     simp only [List.getElem?_toArray, List.getElem?_cons_succ, List.getElem?_cons_zero]
     go_wp2_with fail
     refine And.intro (by first | exact (fun _ => HS.out _ (hC.alloc (hC.size) _)) | exact HS.out _ (hC.alloc (hC.size) _)) ?_
     have hzC : Wd.heap.size < (Wd.alloc (.cells #[.int .i64 x] 3)).heap.size := by simp
     have hlC : Wd.heap.size ≤ Wd.heap.size := hC.size
     have hbA : Below Wd.heap.size Wd (Wd.alloc (.cells #[.int .i64 x] 3)) := (Below.refl _ _).alloc (Nat.le_refl _) _
     have X5 := Blk.new Wd #[.int .i64 x] 3
     have hC := hC.alloc (hC.size) (.cells #[.int .i64 x] 3)
     generalize hN : Wd.alloc (.cells #[.int .i64 x] 3) = C38 at *
     clear hN
     have hL5 : Wd.heap.size < C38.heap.size := by omega
     clear hbA hzC
     rw [q_fork]
     refine ⟨?_, ?_⟩
     ·
       rw [q_step]
       simp only [List.getElem?_toArray, List.getElem?_cons_succ, List.getElem?_cons_zero]
       go_wp2_with fail
       refine And.intro (by first | exact (fun _ => HS.out _ (hC.alloc (hC.size) _)) | exact HS.out _ (hC.alloc (hC.size) _)) ?_
       have hzC : C38.heap.size < (C38.alloc (.cells #[] 3)).heap.size := by simp
       have hlC : Wd.heap.size ≤ C38.heap.size := hC.size
       have hbA : Below C38.heap.size C38 (C38.alloc (.cells #[] 3)) := (Below.refl _ _).alloc (Nat.le_refl _) _
       have HO : Hid (OwnInts (C38.alloc (.cells #[] 3)) Wd.heap.size (.slice (some ⟨C38.heap.size, 0, none⟩) 0 0) []) := OwnInts.lit C38 Wd.heap.size [] hlC (by decide)
       have X5 := X5.ext hbA
       have hC := hC.alloc (hC.size) (.cells #[] 3)
       generalize hN : C38.alloc (.cells #[] 3) = C39 at *
       clear hN
       have hne5 : Wd.heap.size ≠ C38.heap.size := by have := X5.lt; have := hL5; omega
       have hL1 : C38.heap.size < C39.heap.size := by omega
       have hL5 : Wd.heap.size < C39.heap.size := by omega
       clear hbA hzC
       rw [q_fork]
       refine ⟨?_, ?_⟩
       ·
         rw [q_step]
         simp only [List.getElem?_toArray, List.getElem?_cons_succ, List.getElem?_cons_zero]
         refine append_ints (v := .slice (some ⟨C38.heap.size, 0, none⟩) 0 0) (xs := []) (base := Wd.heap.size) (src := .slice mad M.length mcap) (l := M) rfl _ _ rfl rfl HO.out rfl (HMd.out.ext hC) (by simp; omega) (by exact hC.size) ?_
         intro vx C40 hox hg _
         have hbA : Below Wd.heap.size C39 C40 := grown_own HO.out hg hC.size
         have X5 := grown_keep hg X5 (fun e => hne5 (by simpa [Value.ownBlock] using e.symm))
         have hC := hC.trans hbA
         have HO := Lib.hid hox
         clear hbA hg hox
         refine And.intro (by first | exact (fun _ => HS.out _ hC) | exact HS.out _ hC) ?_
         simp only [Act.put, List.setIfInBounds_toArray, List.set_cons_zero, List.set_cons_succ]
         have hL5 : Wd.heap.size < C40.heap.size := X5.lt
         rw [q_fork]
         refine ⟨?_, ?_⟩
         ·
           rw [q_step]
           simp only [List.getElem?_toArray, List.getElem?_cons_succ, List.getElem?_cons_zero]
           refine append_ints (v := vx) (xs := [] ++ M) (base := Wd.heap.size) (src := .slice (some ⟨Wd.heap.size, 0, none⟩) 1 1) (l := [x]) rfl _ _ rfl rfl HO.out rfl (one_at x HX.out X5) (by simp; omega) (by exact hC.size) ?_
           intro vy C41 hoy hg _
           have hbA : Below Wd.heap.size C40 C41 := grown_own HO.out hg hC.size
           have hC := hC.trans hbA
           have HY := Lib.hid (show IntsAt C41 vy (M ++ [x]) from by have := hoy.at HIN.out; simpa using this)
           clear hbA hg hoy HO X5
           refine And.intro (by first | exact (fun _ => HS.out _ hC) | exact HS.out _ hC) ?_
           simp only [Act.put, List.setIfInBounds_toArray, List.set_cons_zero, List.set_cons_succ]
           rw [q_fork]
           refine ⟨?_, ?_⟩
           ·
             rw [q_step]
             simp only [List.getElem?_toArray, List.getElem?_cons_succ, List.getElem?_cons_zero]
             go_wp2_with fail
             refine (replay_any g (M ++ [x]) _ _ C41 (HG.out.ext (hBd.trans (hC.mono hBd.size))) HY.out).mono ?_
             rw [HP3.out, errV_ne (show (3 : Int) ≠ 0 by omega)]
             rintro _ C42 ⟨⟨rv, rfl, hrv⟩, hb5⟩
             obtain ⟨rl, rn, rk, rad, rcap, rfl⟩ := hrv.shape
             have hC := hC.trans (hb5.mono hC.size)
             clear hb5 hrv HY
             go_wp2_with fail
             refine And.intro (by first | exact (fun _ => HS.out _ hC) | exact HS.out _ hC) ?_
             iterate 3
               rw [q_take]
               simp only [List.getElem?_toArray, List.getElem?_cons_succ, List.getElem?_cons_zero]
               refine ⟨?_, .inl ⟨by rfl, ?_⟩, (HS.out _ hC), ?_⟩
               rotate_left
               · rintro w' _
                 go_simp
                 rfl
               simp only [Act.put, List.setIfInBounds_toArray, List.set_cons_zero, List.set_cons_succ]
             rw [q_step]
             simp only [List.getElem?_toArray, List.getElem?_cons_succ, List.getElem?_cons_zero]
             go_wp2_with fail
             refine And.intro (by first | exact (fun _ => HS.out _ (hC.alloc (hC.size) _)) | exact HS.out _ (hC.alloc (hC.size) _)) ?_
             have hlX : Wd.heap.size ≤ C42.heap.size := hC.size
             have XB := Blk.new C42 #[.bool false, .int .i64 0, .slice none 0 0] 27
             have hC := hC.alloc (hC.size) (.cells #[.bool false, .int .i64 0, .slice none 0 0] 27)
             generalize hN : C42.alloc (.cells #[.bool false, .int .i64 0, .slice none 0 0] 27) = C43 at *
             clear hN
             have hbx : Wd.heap.size ≤ C42.heap.size := hlX
             have h0 := XB.cell 0
             have h1 := XB.cell 1
             have h2 := XB.cell 2
             simp only [List.getElem?_toArray, List.getElem?_cons_succ, List.getElem?_cons_zero] at h0 h1 h2
             have u0 := XB.unfrozen 0
             have u1 := XB.unfrozen 1
             have u2 := XB.unfrozen 2
             rw [q_step]
             simp only [List.getElem?_toArray, List.getElem?_cons_succ, List.getElem?_cons_zero]
             go_wp2_with fail
             have hC := ((hC.setCell (p := ⟨C42.heap.size, 0, none⟩) hbx (.bool rl)).setCell (p := ⟨C42.heap.size, 1, none⟩) hbx (.int .i64 rn)).setCell (p := ⟨C42.heap.size, 2, none⟩) hbx (.slice rad rk rcap)
             clear h0 h1 h2 u0 u1 u2 XB
             refine And.intro (by first | exact (fun _ => HS.out _ hC) | exact HS.out _ hC) ?_
             rw [q_step]
             simp only [List.getElem?_toArray, List.getElem?_cons_succ, List.getElem?_cons_zero]
             go_wp2_with fail
             refine And.intro (fun h => absurd h (by decide)) ?_
             rw [q_done]
             generalize (((C43.setCell ⟨C42.heap.size, 0, none⟩ (.bool rl)).setCell ⟨C42.heap.size, 1, none⟩ (.int .i64 rn)).setCell ⟨C42.heap.size, 2, none⟩ (.slice rad rk rcap)) = WF at *
             go_wp2_with fail
             go_meet
             exact ⟨rfl, hWd.trans (hC.mono hWd.size)⟩
           ·
             rw [q_step]
             simp only [List.getElem?_toArray, List.getElem?_cons_succ, List.getElem?_cons_zero]
             go_wp2_with fail
             refine And.intro (by first | exact (fun _ => HS.out _ (hC.alloc (hC.size) _)) | exact HS.out _ (hC.alloc (hC.size) _)) ?_
             have hzC : C41.heap.size < (C41.alloc (.cells #[.bool false, .int .i64 0, .slice none 0 0] 27)).heap.size := by simp
             have hlC : Wd.heap.size ≤ C41.heap.size := hC.size
             have hbA : Below C41.heap.size C41 (C41.alloc (.cells #[.bool false, .int .i64 0, .slice none 0 0] 27)) := (Below.refl _ _).alloc (Nat.le_refl _) _
             have HY := Lib.hid (HY.out.ext hbA)
             have XB := Blk.new C41 #[.bool false, .int .i64 0, .slice none 0 0] 27
             have hlX : Wd.heap.size ≤ C41.heap.size := hlC
             have hC := hC.alloc (hC.size) (.cells #[.bool false, .int .i64 0, .slice none 0 0] 27)
             generalize hN : C41.alloc (.cells #[.bool false, .int .i64 0, .slice none 0 0] 27) = C44 at *
             clear hN
             clear hbA hzC
             rw [q_step]
             simp only [List.getElem?_toArray, List.getElem?_cons_succ, List.getElem?_cons_zero]
             go_wp2_with fail
             refine (replay_any g (M ++ [x]) _ _ C44 (HG.out.ext (hBd.trans (hC.mono hBd.size))) HY.out).mono ?_
             rw [HP3.out, errV_ne (show (3 : Int) ≠ 0 by omega)]
             rintro _ C45 ⟨⟨rv, rfl, hrv⟩, hb5⟩
             obtain ⟨rl, rn, rk, rad, rcap, rfl⟩ := hrv.shape
             have XB := XB.ext hb5
             have hC := hC.trans (hb5.mono hC.size)
             clear hb5 hrv HY
             go_wp2_with fail
             refine And.intro (by first | exact (fun _ => HS.out _ hC) | exact HS.out _ hC) ?_
             iterate 3
               rw [q_take]
               simp only [List.getElem?_toArray, List.getElem?_cons_succ, List.getElem?_cons_zero]
               refine ⟨?_, .inl ⟨by rfl, ?_⟩, (HS.out _ hC), ?_⟩
               rotate_left
               · rintro w' _
                 go_simp
                 rfl
               simp only [Act.put, List.setIfInBounds_toArray, List.set_cons_zero, List.set_cons_succ]
             have hbx : Wd.heap.size ≤ C41.heap.size := hlX
             have h0 := XB.cell 0
             have h1 := XB.cell 1
             have h2 := XB.cell 2
             simp only [List.getElem?_toArray, List.getElem?_cons_succ, List.getElem?_cons_zero] at h0 h1 h2
             have u0 := XB.unfrozen 0
             have u1 := XB.unfrozen 1
             have u2 := XB.unfrozen 2
             rw [q_step]
             simp only [List.getElem?_toArray, List.getElem?_cons_succ, List.getElem?_cons_zero]
             go_wp2_with fail
             have hC := ((hC.setCell (p := ⟨C41.heap.size, 0, none⟩) hbx (.bool rl)).setCell (p := ⟨C41.heap.size, 1, none⟩) hbx (.int .i64 rn)).setCell (p := ⟨C41.heap.size, 2, none⟩) hbx (.slice rad rk rcap)
             clear h0 h1 h2 u0 u1 u2 XB
             refine And.intro (by first | exact (fun _ => HS.out _ hC) | exact HS.out _ hC) ?_
             rw [q_step]
             simp only [List.getElem?_toArray, List.getElem?_cons_succ, List.getElem?_cons_zero]
             go_wp2_with fail
             refine And.intro (fun h => absurd h (by decide)) ?_
             rw [q_done]
             generalize (((C45.setCell ⟨C41.heap.size, 0, none⟩ (.bool rl)).setCell ⟨C41.heap.size, 1, none⟩ (.int .i64 rn)).setCell ⟨C41.heap.size, 2, none⟩ (.slice rad rk rcap)) = WF at *
             go_wp2_with fail
             go_meet
             exact ⟨rfl, hWd.trans (hC.mono hWd.size)⟩
         ·
           rw [q_step]
           simp only [List.getElem?_toArray, List.getElem?_cons_succ, List.getElem?_cons_zero]
           go_wp2_with fail
           refine And.intro (by first | exact (fun _ => HS.out _ (hC.alloc (hC.size) _)) | exact HS.out _ (hC.alloc (hC.size) _)) ?_
           have hzC : C40.heap.size < (C40.alloc (.cells #[.bool false, .int .i64 0, .slice none 0 0] 27)).heap.size := by simp
           have hlC : Wd.heap.size ≤ C40.heap.size := hC.size
           have hbA : Below C40.heap.size C40 (C40.alloc (.cells #[.bool false, .int .i64 0, .slice none 0 0] 27)) := (Below.refl _ _).alloc (Nat.le_refl _) _
           have HO := Lib.hid (HO.out.kept hbA)
           have X5 := X5.ext hbA
           have XB := Blk.new C40 #[.bool false, .int .i64 0, .slice none 0 0] 27
           have hlX : Wd.heap.size ≤ C40.heap.size := hlC
           have hC := hC.alloc (hC.size) (.cells #[.bool false, .int .i64 0, .slice none 0 0] 27)
           generalize hN : C40.alloc (.cells #[.bool false, .int .i64 0, .slice none 0 0] 27) = C46 at *
           clear hN
           have hL5 : Wd.heap.size < C46.heap.size := by omega
           clear hbA hzC
           rw [q_step]
           simp only [List.getElem?_toArray, List.getElem?_cons_succ, List.getElem?_cons_zero]
           refine append_ints (v := vx) (xs := [] ++ M) (base := Wd.heap.size) (src := .slice (some ⟨Wd.heap.size, 0, none⟩) 1 1) (l := [x]) rfl _ _ rfl rfl HO.out rfl (one_at x HX.out X5) (by simp; omega) (by exact hC.size) ?_
           intro vy C47 hoy hg _
           have hbA : Below Wd.heap.size C46 C47 := grown_own HO.out hg hC.size
           have XB := grown_keep hg XB (own_ne_val HO.out XB)
           have hC := hC.trans hbA
           have HY := Lib.hid (show IntsAt C47 vy (M ++ [x]) from by have := hoy.at HIN.out; simpa using this)
           clear hbA hg hoy HO X5
           refine And.intro (by first | exact (fun _ => HS.out _ hC) | exact HS.out _ hC) ?_
           simp only [Act.put, List.setIfInBounds_toArray, List.set_cons_zero, List.set_cons_succ]
           rw [q_step]
           simp only [List.getElem?_toArray, List.getElem?_cons_succ, List.getElem?_cons_zero]
           go_wp2_with fail
           refine (replay_any g (M ++ [x]) _ _ C47 (HG.out.ext (hBd.trans (hC.mono hBd.size))) HY.out).mono ?_
           rw [HP3.out, errV_ne (show (3 : Int) ≠ 0 by omega)]
           rintro _ C48 ⟨⟨rv, rfl, hrv⟩, hb5⟩
           obtain ⟨rl, rn, rk, rad, rcap, rfl⟩ := hrv.shape
           have XB := XB.ext hb5
           have hC := hC.trans (hb5.mono hC.size)
           clear hb5 hrv HY
           go_wp2_with fail
           refine And.intro (by first | exact (fun _ => HS.out _ hC) | exact HS.out _ hC) ?_
           iterate 3
             rw [q_take]
             simp only [List.getElem?_toArray, List.getElem?_cons_succ, List.getElem?_cons_zero]
             refine ⟨?_, .inl ⟨by rfl, ?_⟩, (HS.out _ hC), ?_⟩
             rotate_left
             · rintro w' _
               go_simp
               rfl
             simp only [Act.put, List.setIfInBounds_toArray, List.set_cons_zero, List.set_cons_succ]
           have hbx : Wd.heap.size ≤ C40.heap.size := hlX
           have h0 := XB.cell 0
           have h1 := XB.cell 1
           have h2 := XB.cell 2
           simp only [List.getElem?_toArray, List.getElem?_cons_succ, List.getElem?_cons_zero] at h0 h1 h2
           have u0 := XB.unfrozen 0
           have u1 := XB.unfrozen 1
           have u2 := XB.unfrozen 2
           rw [q_step]
           simp only [List.getElem?_toArray, List.getElem?_cons_succ, List.getElem?_cons_zero]
           go_wp2_with fail
           have hC := ((hC.setCell (p := ⟨C40.heap.size, 0, none⟩) hbx (.bool rl)).setCell (p := ⟨C40.heap.size, 1, none⟩) hbx (.int .i64 rn)).setCell (p := ⟨C40.heap.size, 2, none⟩) hbx (.slice rad rk rcap)
           clear h0 h1 h2 u0 u1 u2 XB
           refine And.intro (by first | exact (fun _ => HS.out _ hC) | exact HS.out _ hC) ?_
           rw [q_step]
           simp only [List.getElem?_toArray, List.getElem?_cons_succ, List.getElem?_cons_zero]
           go_wp2_with fail
           refine And.intro (fun h => absurd h (by decide)) ?_
           rw [q_done]
           generalize (((C48.setCell ⟨C40.heap.size, 0, none⟩ (.bool rl)).setCell ⟨C40.heap.size, 1, none⟩ (.int .i64 rn)).setCell ⟨C40.heap.size, 2, none⟩ (.slice rad rk rcap)) = WF at *
           go_wp2_with fail
           go_meet
           exact ⟨rfl, hWd.trans (hC.mono hWd.size)⟩
       ·
         rw [q_step]
         simp only [List.getElem?_toArray, List.getElem?_cons_succ, List.getElem?_cons_zero]
         go_wp2_with fail
         refine And.intro (by first | exact (fun _ => HS.out _ (hC.alloc (hC.size) _)) | exact HS.out _ (hC.alloc (hC.size) _)) ?_
         have hzC : C39.heap.size < (C39.alloc (.cells #[.bool false, .int .i64 0, .slice none 0 0] 27)).heap.size := by simp
         have hlC : Wd.heap.size ≤ C39.heap.size := hC.size
         have hbA : Below C39.heap.size C39 (C39.alloc (.cells #[.bool false, .int .i64 0, .slice none 0 0] 27)) := (Below.refl _ _).alloc (Nat.le_refl _) _
         have HO := Lib.hid (HO.out.kept hbA)
         have X5 := X5.ext hbA
         have XB := Blk.new C39 #[.bool false, .int .i64 0, .slice none 0 0] 27
         have hlX : Wd.heap.size ≤ C39.heap.size := hlC
         have hC := hC.alloc (hC.size) (.cells #[.bool false, .int .i64 0, .slice none 0 0] 27)
         generalize hN : C39.alloc (.cells #[.bool false, .int .i64 0, .slice none 0 0] 27) = C49 at *
         clear hN
         have hL1 : C38.heap.size < C49.heap.size := by omega
         have hL5 : Wd.heap.size < C49.heap.size := by omega
         clear hbA hzC
         rw [q_step]
         simp only [List.getElem?_toArray, List.getElem?_cons_succ, List.getElem?_cons_zero]
         refine append_ints (v := .slice (some ⟨C38.heap.size, 0, none⟩) 0 0) (xs := []) (base := Wd.heap.size) (src := .slice mad M.length mcap) (l := M) rfl _ _ rfl rfl HO.out rfl (HMd.out.ext hC) (by simp; omega) (by exact hC.size) ?_
         intro vx C50 hox hg _
         have hbA : Below Wd.heap.size C49 C50 := grown_own HO.out hg hC.size
         have XB := grown_keep hg XB (own_ne_val HO.out XB)
         have X5 := grown_keep hg X5 (fun e => hne5 (by simpa [Value.ownBlock] using e.symm))
         have hC := hC.trans hbA
         have HO := Lib.hid hox
         clear hbA hg hox
         refine And.intro (by first | exact (fun _ => HS.out _ hC) | exact HS.out _ hC) ?_
         simp only [Act.put, List.setIfInBounds_toArray, List.set_cons_zero, List.set_cons_succ]
         have hL5 : Wd.heap.size < C50.heap.size := X5.lt
         rw [q_step]
         simp only [List.getElem?_toArray, List.getElem?_cons_succ, List.getElem?_cons_zero]
         refine append_ints (v := vx) (xs := [] ++ M) (base := Wd.heap.size) (src := .slice (some ⟨Wd.heap.size, 0, none⟩) 1 1) (l := [x]) rfl _ _ rfl rfl HO.out rfl (one_at x HX.out X5) (by simp; omega) (by exact hC.size) ?_
         intro vy C51 hoy hg _
         have hbA : Below Wd.heap.size C50 C51 := grown_own HO.out hg hC.size
         have XB := grown_keep hg XB (own_ne_val HO.out XB)
         have hC := hC.trans hbA
         have HY := Lib.hid (show IntsAt C51 vy (M ++ [x]) from by have := hoy.at HIN.out; simpa using this)
         clear hbA hg hoy HO X5
         refine And.intro (by first | exact (fun _ => HS.out _ hC) | exact HS.out _ hC) ?_
         simp only [Act.put, List.setIfInBounds_toArray, List.set_cons_zero, List.set_cons_succ]
         rw [q_step]
         simp only [List.getElem?_toArray, List.getElem?_cons_succ, List.getElem?_cons_zero]
         go_wp2_with fail
         refine (replay_any g (M ++ [x]) _ _ C51 (HG.out.ext (hBd.trans (hC.mono hBd.size))) HY.out).mono ?_
         rw [HP3.out, errV_ne (show (3 : Int) ≠ 0 by omega)]
         rintro _ C52 ⟨⟨rv, rfl, hrv⟩, hb5⟩
         obtain ⟨rl, rn, rk, rad, rcap, rfl⟩ := hrv.shape
         have XB := XB.ext hb5
         have hC := hC.trans (hb5.mono hC.size)
         clear hb5 hrv HY
         go_wp2_with fail
         refine And.intro (by first | exact (fun _ => HS.out _ hC) | exact HS.out _ hC) ?_
         iterate 3
           rw [q_take]
           simp only [List.getElem?_toArray, List.getElem?_cons_succ, List.getElem?_cons_zero]
           refine ⟨?_, .inl ⟨by rfl, ?_⟩, (HS.out _ hC), ?_⟩
           rotate_left
           · rintro w' _
             go_simp
             rfl
           simp only [Act.put, List.setIfInBounds_toArray, List.set_cons_zero, List.set_cons_succ]
         have hbx : Wd.heap.size ≤ C39.heap.size := hlX
         have h0 := XB.cell 0
         have h1 := XB.cell 1
         have h2 := XB.cell 2
         simp only [List.getElem?_toArray, List.getElem?_cons_succ, List.getElem?_cons_zero] at h0 h1 h2
         have u0 := XB.unfrozen 0
         have u1 := XB.unfrozen 1
         have u2 := XB.unfrozen 2
         rw [q_step]
         simp only [List.getElem?_toArray, List.getElem?_cons_succ, List.getElem?_cons_zero]
         go_wp2_with fail
         have hC := ((hC.setCell (p := ⟨C39.heap.size, 0, none⟩) hbx (.bool rl)).setCell (p := ⟨C39.heap.size, 1, none⟩) hbx (.int .i64 rn)).setCell (p := ⟨C39.heap.size, 2, none⟩) hbx (.slice rad rk rcap)
         clear h0 h1 h2 u0 u1 u2 XB
         refine And.intro (by first | exact (fun _ => HS.out _ hC) | exact HS.out _ hC) ?_
         rw [q_step]
         simp only [List.getElem?_toArray, List.getElem?_cons_succ, List.getElem?_cons_zero]
         go_wp2_with fail
         refine And.intro (fun h => absurd h (by decide)) ?_
         rw [q_done]
         generalize (((C52.setCell ⟨C39.heap.size, 0, none⟩ (.bool rl)).setCell ⟨C39.heap.size, 1, none⟩ (.int .i64 rn)).setCell ⟨C39.heap.size, 2, none⟩ (.slice rad rk rcap)) = WF at *
         go_wp2_with fail
         go_meet
         exact ⟨rfl, hWd.trans (hC.mono hWd.size)⟩
     ·
       rw [q_step]
       simp only [List.getElem?_toArray, List.getElem?_cons_succ, List.getElem?_cons_zero]
       go_wp2_with fail
       refine And.intro (by first | exact (fun _ => HS.out _ (hC.alloc (hC.size) _)) | exact HS.out _ (hC.alloc (hC.size) _)) ?_
       have hzC : C38.heap.size < (C38.alloc (.cells #[.bool false, .int .i64 0, .slice none 0 0] 27)).heap.size := by simp
       have hlC : Wd.heap.size ≤ C38.heap.size := hC.size
       have hbA : Below C38.heap.size C38 (C38.alloc (.cells #[.bool false, .int .i64 0, .slice none 0 0] 27)) := (Below.refl _ _).alloc (Nat.le_refl _) _
       have X5 := X5.ext hbA
       have XB := Blk.new C38 #[.bool false, .int .i64 0, .slice none 0 0] 27
       have hlX : Wd.heap.size ≤ C38.heap.size := hlC
       have hC := hC.alloc (hC.size) (.cells #[.bool false, .int .i64 0, .slice none 0 0] 27)
       generalize hN : C38.alloc (.cells #[.bool false, .int .i64 0, .slice none 0 0] 27) = C53 at *
       clear hN
       have hL5 : Wd.heap.size < C53.heap.size := by omega
       clear hbA hzC
       rw [q_step]
       simp only [List.getElem?_toArray, List.getElem?_cons_succ, List.getElem?_cons_zero]
       go_wp2_with fail
       refine And.intro (by first | exact (fun _ => HS.out _ (hC.alloc (hC.size) _)) | exact HS.out _ (hC.alloc (hC.size) _)) ?_
       have hzC : C53.heap.size < (C53.alloc (.cells #[] 3)).heap.size := by simp
       have hlC : Wd.heap.size ≤ C53.heap.size := hC.size
       have hbA : Below C53.heap.size C53 (C53.alloc (.cells #[] 3)) := (Below.refl _ _).alloc (Nat.le_refl _) _
       have HO : Hid (OwnInts (C53.alloc (.cells #[] 3)) Wd.heap.size (.slice (some ⟨C53.heap.size, 0, none⟩) 0 0) []) := OwnInts.lit C53 Wd.heap.size [] hlC (by decide)
       have X5 := X5.ext hbA
       have XB := XB.ext hbA
       have hC := hC.alloc (hC.size) (.cells #[] 3)
       generalize hN : C53.alloc (.cells #[] 3) = C54 at *
       clear hN
       have hne5 : Wd.heap.size ≠ C53.heap.size := by have := X5.lt; have := hL5; omega
       have hL1 : C53.heap.size < C54.heap.size := by omega
       have hL5 : Wd.heap.size < C54.heap.size := by omega
       clear hbA hzC
       rw [q_step]
       simp only [List.getElem?_toArray, List.getElem?_cons_succ, List.getElem?_cons_zero]
       refine append_ints (v := .slice (some ⟨C53.heap.size, 0, none⟩) 0 0) (xs := []) (base := Wd.heap.size) (src := .slice mad M.length mcap) (l := M) rfl _ _ rfl rfl HO.out rfl (HMd.out.ext hC) (by simp; omega) (by exact hC.size) ?_
       intro vx C55 hox hg _
       have hbA : Below Wd.heap.size C54 C55 := grown_own HO.out hg hC.size
       have XB := grown_keep hg XB (own_ne_val HO.out XB)
       have X5 := grown_keep hg X5 (fun e => hne5 (by simpa [Value.ownBlock] using e.symm))
       have hC := hC.trans hbA
       have HO := Lib.hid hox
       clear hbA hg hox
       refine And.intro (by first | exact (fun _ => HS.out _ hC) | exact HS.out _ hC) ?_
       simp only [Act.put, List.setIfInBounds_toArray, List.set_cons_zero, List.set_cons_succ]
       have hL5 : Wd.heap.size < C55.heap.size := X5.lt
       rw [q_step]
       simp only [List.getElem?_toArray, List.getElem?_cons_succ, List.getElem?_cons_zero]
       refine append_ints (v := vx) (xs := [] ++ M) (base := Wd.heap.size) (src := .slice (some ⟨Wd.heap.size, 0, none⟩) 1 1) (l := [x]) rfl _ _ rfl rfl HO.out rfl (one_at x HX.out X5) (by simp; omega) (by exact hC.size) ?_
       intro vy C56 hoy hg _
       have hbA : Below Wd.heap.size C55 C56 := grown_own HO.out hg hC.size
       have XB := grown_keep hg XB (own_ne_val HO.out XB)
       have hC := hC.trans hbA
       have HY := Lib.hid (show IntsAt C56 vy (M ++ [x]) from by have := hoy.at HIN.out; simpa using this)
       clear hbA hg hoy HO X5
       refine And.intro (by first | exact (fun _ => HS.out _ hC) | exact HS.out _ hC) ?_
       simp only [Act.put, List.setIfInBounds_toArray, List.set_cons_zero, List.set_cons_succ]
       rw [q_step]
       simp only [List.getElem?_toArray, List.getElem?_cons_succ, List.getElem?_cons_zero]
       go_wp2_with fail
       refine (replay_any g (M ++ [x]) _ _ C56 (HG.out.ext (hBd.trans (hC.mono hBd.size))) HY.out).mono ?_
       rw [HP3.out, errV_ne (show (3 : Int) ≠ 0 by omega)]
       rintro _ C57 ⟨⟨rv, rfl, hrv⟩, hb5⟩
       obtain ⟨rl, rn, rk, rad, rcap, rfl⟩ := hrv.shape
       have XB := XB.ext hb5
       have hC := hC.trans (hb5.mono hC.size)
       clear hb5 hrv HY
       go_wp2_with fail
       refine And.intro (by first | exact (fun _ => HS.out _ hC) | exact HS.out _ hC) ?_
       iterate 3
         rw [q_take]
         simp only [List.getElem?_toArray, List.getElem?_cons_succ, List.getElem?_cons_zero]
         refine ⟨?_, .inl ⟨by rfl, ?_⟩, (HS.out _ hC), ?_⟩
         rotate_left
         · rintro w' _
           go_simp
           rfl
         simp only [Act.put, List.setIfInBounds_toArray, List.set_cons_zero, List.set_cons_succ]
       have hbx : Wd.heap.size ≤ C38.heap.size := hlX
       have h0 := XB.cell 0
       have h1 := XB.cell 1
       have h2 := XB.cell 2
       simp only [List.getElem?_toArray, List.getElem?_cons_succ, List.getElem?_cons_zero] at h0 h1 h2
       have u0 := XB.unfrozen 0
       have u1 := XB.unfrozen 1
       have u2 := XB.unfrozen 2
       rw [q_step]
       simp only [List.getElem?_toArray, List.getElem?_cons_succ, List.getElem?_cons_zero]
       go_wp2_with fail
       have hC := ((hC.setCell (p := ⟨C38.heap.size, 0, none⟩) hbx (.bool rl)).setCell (p := ⟨C38.heap.size, 1, none⟩) hbx (.int .i64 rn)).setCell (p := ⟨C38.heap.size, 2, none⟩) hbx (.slice rad rk rcap)
       clear h0 h1 h2 u0 u1 u2 XB
       refine And.intro (by first | exact (fun _ => HS.out _ hC) | exact HS.out _ hC) ?_
       rw [q_step]
       simp only [List.getElem?_toArray, List.getElem?_cons_succ, List.getElem?_cons_zero]
       go_wp2_with fail
       refine And.intro (fun h => absurd h (by decide)) ?_
       rw [q_done]
       generalize (((C57.setCell ⟨C38.heap.size, 0, none⟩ (.bool rl)).setCell ⟨C38.heap.size, 1, none⟩ (.int .i64 rn)).setCell ⟨C38.heap.size, 2, none⟩ (.slice rad rk rcap)) = WF at *
       go_wp2_with fail
       go_meet
       exact ⟨rfl, hWd.trans (hC.mono hWd.size)⟩
   ·
     rw [q_step]
     simp only [List.getElem?_toArray, List.getElem?_cons_succ, List.getElem?_cons_zero]
     go_wp2_with fail
     refine And.intro (by first | exact (fun _ => HS.out _ (hC.alloc (hC.size) _)) | exact HS.out _ (hC.alloc (hC.size) _)) ?_
     have hzC : Wd.heap.size < (Wd.alloc (.cells #[.bool false, .int .i64 0, .slice none 0 0] 27)).heap.size := by simp
     have hlC : Wd.heap.size ≤ Wd.heap.size := hC.size
     have hbA : Below Wd.heap.size Wd (Wd.alloc (.cells #[.bool false, .int .i64 0, .slice none 0 0] 27)) := (Below.refl _ _).alloc (Nat.le_refl _) _
     have XB := Blk.new Wd #[.bool false, .int .i64 0, .slice none 0 0] 27
     have hlX : Wd.heap.size ≤ Wd.heap.size := hlC
     have hC := hC.alloc (hC.size) (.cells #[.bool false, .int .i64 0, .slice none 0 0] 27)
     generalize hN : Wd.alloc (.cells #[.bool false, .int .i64 0, .slice none 0 0] 27) = C58 at *
     clear hN
     clear hbA hzC
     rw [q_fork]
     refine ⟨?_, ?_⟩
     ·
       rw [q_step]
       simp only [List.getElem?_toArray, List.getElem?_cons_succ, List.getElem?_cons_zero]
       go_wp2_with fail
       refine And.intro (by first | exact (fun _ => HS.out _ (hC.alloc (hC.size) _)) | exact HS.out _ (hC.alloc (hC.size) _)) ?_
       have hzC : C58.heap.size < (C58.alloc (.cells #[] 3)).heap.size := by simp
       have hlC : Wd.heap.size ≤ C58.heap.size := hC.size
       have hbA : Below C58.heap.size C58 (C58.alloc (.cells #[] 3)) := (Below.refl _ _).alloc (Nat.le_refl _) _
       have HO : Hid (OwnInts (C58.alloc (.cells #[] 3)) Wd.heap.size (.slice (some ⟨C58.heap.size, 0, none⟩) 0 0) []) := OwnInts.lit C58 Wd.heap.size [] hlC (by decide)
       have XB := XB.ext hbA
       have hC := hC.alloc (hC.size) (.cells #[] 3)
       generalize hN : C58.alloc (.cells #[] 3) = C59 at *
       clear hN
       have hL1 : C58.heap.size < C59.heap.size := by omega
       clear hbA hzC
       rw [q_fork]
       refine ⟨?_, ?_⟩
       ·
         rw [q_step]
         simp only [List.getElem?_toArray, List.getElem?_cons_succ, List.getElem?_cons_zero]
         refine append_ints (v := .slice (some ⟨C58.heap.size, 0, none⟩) 0 0) (xs := []) (base := Wd.heap.size) (src := .slice mad M.length mcap) (l := M) rfl _ _ rfl rfl HO.out rfl (HMd.out.ext hC) (by simp; omega) (by exact hC.size) ?_
         intro vx C60 hox hg _
         have hbA : Below Wd.heap.size C59 C60 := grown_own HO.out hg hC.size
         have XB := grown_keep hg XB (own_ne_val HO.out XB)
         have hC := hC.trans hbA
         have HO := Lib.hid hox
         clear hbA hg hox
         refine And.intro (by first | exact (fun _ => HS.out _ hC) | exact HS.out _ hC) ?_
         simp only [Act.put, List.setIfInBounds_toArray, List.set_cons_zero, List.set_cons_succ]
         rw [q_step]
         simp only [List.getElem?_toArray, List.getElem?_cons_succ, List.getElem?_cons_zero]
         go_wp2_with fail
         refine And.intro (by first | exact (fun _ => HS.out _ (hC.alloc (hC.size) _)) | exact HS.out _ (hC.alloc (hC.size) _)) ?_
         have hzC : C60.heap.size < (C60.alloc (.cells #[.int .i64 x] 3)).heap.size := by simp
         have hlC : Wd.heap.size ≤ C60.heap.size := hC.size
         have hbA : Below C60.heap.size C60 (C60.alloc (.cells #[.int .i64 x] 3)) := (Below.refl _ _).alloc (Nat.le_refl _) _
         have HO := Lib.hid (HO.out.kept hbA)
         have X5 := Blk.new C60 #[.int .i64 x] 3
         have XB := XB.ext hbA
         have hC := hC.alloc (hC.size) (.cells #[.int .i64 x] 3)
         generalize hN : C60.alloc (.cells #[.int .i64 x] 3) = C61 at *
         clear hN
         have hL5 : C60.heap.size < C61.heap.size := by omega
         clear hbA hzC
         rw [q_step]
         simp only [List.getElem?_toArray, List.getElem?_cons_succ, List.getElem?_cons_zero]
         refine append_ints (v := vx) (xs := [] ++ M) (base := Wd.heap.size) (src := .slice (some ⟨C60.heap.size, 0, none⟩) 1 1) (l := [x]) rfl _ _ rfl rfl HO.out rfl (one_at x HX.out X5) (by simp; omega) (by exact hC.size) ?_
         intro vy C62 hoy hg _
         have hbA : Below Wd.heap.size C61 C62 := grown_own HO.out hg hC.size
         have XB := grown_keep hg XB (own_ne_val HO.out XB)
         have hC := hC.trans hbA
         have HY := Lib.hid (show IntsAt C62 vy (M ++ [x]) from by have := hoy.at HIN.out; simpa using this)
         clear hbA hg hoy HO X5
         refine And.intro (by first | exact (fun _ => HS.out _ hC) | exact HS.out _ hC) ?_
         simp only [Act.put, List.setIfInBounds_toArray, List.set_cons_zero, List.set_cons_succ]
         rw [q_step]
         simp only [List.getElem?_toArray, List.getElem?_cons_succ, List.getElem?_cons_zero]
         go_wp2_with fail
         refine (replay_any g (M ++ [x]) _ _ C62 (HG.out.ext (hBd.trans (hC.mono hBd.size))) HY.out).mono ?_
         rw [HP3.out, errV_ne (show (3 : Int) ≠ 0 by omega)]
         rintro _ C63 ⟨⟨rv, rfl, hrv⟩, hb5⟩
         obtain ⟨rl, rn, rk, rad, rcap, rfl⟩ := hrv.shape
         have XB := XB.ext hb5
         have hC := hC.trans (hb5.mono hC.size)
         clear hb5 hrv HY
         go_wp2_with fail
         refine And.intro (by first | exact (fun _ => HS.out _ hC) | exact HS.out _ hC) ?_
         iterate 3
           rw [q_take]
           simp only [List.getElem?_toArray, List.getElem?_cons_succ, List.getElem?_cons_zero]
           refine ⟨?_, .inl ⟨by rfl, ?_⟩, (HS.out _ hC), ?_⟩
           rotate_left
           · rintro w' _
             go_simp
             rfl
           simp only [Act.put, List.setIfInBounds_toArray, List.set_cons_zero, List.set_cons_succ]
         have hbx : Wd.heap.size ≤ Wd.heap.size := hlX
         have h0 := XB.cell 0
         have h1 := XB.cell 1
         have h2 := XB.cell 2
         simp only [List.getElem?_toArray, List.getElem?_cons_succ, List.getElem?_cons_zero] at h0 h1 h2
         have u0 := XB.unfrozen 0
         have u1 := XB.unfrozen 1
         have u2 := XB.unfrozen 2
         rw [q_step]
         simp only [List.getElem?_toArray, List.getElem?_cons_succ, List.getElem?_cons_zero]
         go_wp2_with fail
         have hC := ((hC.setCell (p := ⟨Wd.heap.size, 0, none⟩) hbx (.bool rl)).setCell (p := ⟨Wd.heap.size, 1, none⟩) hbx (.int .i64 rn)).setCell (p := ⟨Wd.heap.size, 2, none⟩) hbx (.slice rad rk rcap)
         clear h0 h1 h2 u0 u1 u2 XB
         refine And.intro (by first | exact (fun _ => HS.out _ hC) | exact HS.out _ hC) ?_
         rw [q_step]
         simp only [List.getElem?_toArray, List.getElem?_cons_succ, List.getElem?_cons_zero]
         go_wp2_with fail
         refine And.intro (fun h => absurd h (by decide)) ?_
         rw [q_done]
         generalize (((C63.setCell ⟨Wd.heap.size, 0, none⟩ (.bool rl)).setCell ⟨Wd.heap.size, 1, none⟩ (.int .i64 rn)).setCell ⟨Wd.heap.size, 2, none⟩ (.slice rad rk rcap)) = WF at *
         go_wp2_with fail
         go_meet
         exact ⟨rfl, hWd.trans (hC.mono hWd.size)⟩
       ·
         rw [q_step]
         simp only [List.getElem?_toArray, List.getElem?_cons_succ, List.getElem?_cons_zero]
         go_wp2_with fail
         refine And.intro (by first | exact (fun _ => HS.out _ (hC.alloc (hC.size) _)) | exact HS.out _ (hC.alloc (hC.size) _)) ?_
         have hzC : C59.heap.size < (C59.alloc (.cells #[.int .i64 x] 3)).heap.size := by simp
         have hlC : Wd.heap.size ≤ C59.heap.size := hC.size
         have hbA : Below C59.heap.size C59 (C59.alloc (.cells #[.int .i64 x] 3)) := (Below.refl _ _).alloc (Nat.le_refl _) _
         have HO := Lib.hid (HO.out.kept hbA)
         have X5 := Blk.new C59 #[.int .i64 x] 3
         have XB := XB.ext hbA
         have hC := hC.alloc (hC.size) (.cells #[.int .i64 x] 3)
         generalize hN : C59.alloc (.cells #[.int .i64 x] 3) = C64 at *
         clear hN
         have hne5 : C59.heap.size ≠ C58.heap.size := by have := hL1; omega
         have hL1 : C58.heap.size < C64.heap.size := by omega
         have hL5 : C59.heap.size < C64.heap.size := by omega
         clear hbA hzC
         rw [q_step]
         simp only [List.getElem?_toArray, List.getElem?_cons_succ, List.getElem?_cons_zero]
         refine append_ints (v := .slice (some ⟨C58.heap.size, 0, none⟩) 0 0) (xs := []) (base := Wd.heap.size) (src := .slice mad M.length mcap) (l := M) rfl _ _ rfl rfl HO.out rfl (HMd.out.ext hC) (by simp; omega) (by exact hC.size) ?_
         intro vx C65 hox hg _
         have hbA : Below Wd.heap.size C64 C65 := grown_own HO.out hg hC.size
         have XB := grown_keep hg XB (own_ne_val HO.out XB)
         have X5 := grown_keep hg X5 (fun e => hne5 (by simpa [Value.ownBlock] using e.symm))
         have hC := hC.trans hbA
         have HO := Lib.hid hox
         clear hbA hg hox
         refine And.intro (by first | exact (fun _ => HS.out _ hC) | exact HS.out _ hC) ?_
         simp only [Act.put, List.setIfInBounds_toArray, List.set_cons_zero, List.set_cons_succ]
         have hL5 : C59.heap.size < C65.heap.size := X5.lt
         rw [q_step]
         simp only [List.getElem?_toArray, List.getElem?_cons_succ, List.getElem?_cons_zero]
         refine append_ints (v := vx) (xs := [] ++ M) (base := Wd.heap.size) (src := .slice (some ⟨C59.heap.size, 0, none⟩) 1 1) (l := [x]) rfl _ _ rfl rfl HO.out rfl (one_at x HX.out X5) (by simp; omega) (by exact hC.size) ?_
         intro vy C66 hoy hg _
         have hbA : Below Wd.heap.size C65 C66 := grown_own HO.out hg hC.size
         have XB := grown_keep hg XB (own_ne_val HO.out XB)
         have hC := hC.trans hbA
         have HY := Lib.hid (show IntsAt C66 vy (M ++ [x]) from by have := hoy.at HIN.out; simpa using this)
         clear hbA hg hoy HO X5
         refine And.intro (by first | exact (fun _ => HS.out _ hC) | exact HS.out _ hC) ?_
         simp only [Act.put, List.setIfInBounds_toArray, List.set_cons_zero, List.set_cons_succ]
         rw [q_step]
         simp only [List.getElem?_toArray, List.getElem?_cons_succ, List.getElem?_cons_zero]
         go_wp2_with fail
         refine (replay_any g (M ++ [x]) _ _ C66 (HG.out.ext (hBd.trans (hC.mono hBd.size))) HY.out).mono ?_
         rw [HP3.out, errV_ne (show (3 : Int) ≠ 0 by omega)]
         rintro _ C67 ⟨⟨rv, rfl, hrv⟩, hb5⟩
         obtain ⟨rl, rn, rk, rad, rcap, rfl⟩ := hrv.shape
         have XB := XB.ext hb5
         have hC := hC.trans (hb5.mono hC.size)
         clear hb5 hrv HY
         go_wp2_with fail
         refine And.intro (by first | exact (fun _ => HS.out _ hC) | exact HS.out _ hC) ?_
         iterate 3
           rw [q_take]
           simp only [List.getElem?_toArray, List.getElem?_cons_succ, List.getElem?_cons_zero]
           refine ⟨?_, .inl ⟨by rfl, ?_⟩, (HS.out _ hC), ?_⟩
           rotate_left
           · rintro w' _
             go_simp
             rfl
           simp only [Act.put, List.setIfInBounds_toArray, List.set_cons_zero, List.set_cons_succ]
         have hbx : Wd.heap.size ≤ Wd.heap.size := hlX
         have h0 := XB.cell 0
         have h1 := XB.cell 1
         have h2 := XB.cell 2
         simp only [List.getElem?_toArray, List.getElem?_cons_succ, List.getElem?_cons_zero] at h0 h1 h2
         have u0 := XB.unfrozen 0
         have u1 := XB.unfrozen 1
         have u2 := XB.unfrozen 2
         rw [q_step]
         simp only [List.getElem?_toArray, List.getElem?_cons_succ, List.getElem?_cons_zero]
         go_wp2_with fail
         have hC := ((hC.setCell (p := ⟨Wd.heap.size, 0, none⟩) hbx (.bool rl)).setCell (p := ⟨Wd.heap.size, 1, none⟩) hbx (.int .i64 rn)).setCell (p := ⟨Wd.heap.size, 2, none⟩) hbx (.slice rad rk rcap)
         clear h0 h1 h2 u0 u1 u2 XB
         refine And.intro (by first | exact (fun _ => HS.out _ hC) | exact HS.out _ hC) ?_
         rw [q_step]
         simp only [List.getElem?_toArray, List.getElem?_cons_succ, List.getElem?_cons_zero]
         go_wp2_with fail
         refine And.intro (fun h => absurd h (by decide)) ?_
         rw [q_done]
         generalize (((C67.setCell ⟨Wd.heap.size, 0, none⟩ (.bool rl)).setCell ⟨Wd.heap.size, 1, none⟩ (.int .i64 rn)).setCell ⟨Wd.heap.size, 2, none⟩ (.slice rad rk rcap)) = WF at *
         go_wp2_with fail
         go_meet
         exact ⟨rfl, hWd.trans (hC.mono hWd.size)⟩
     ·
       rw [q_step]
       simp only [List.getElem?_toArray, List.getElem?_cons_succ, List.getElem?_cons_zero]
       go_wp2_with fail
       refine And.intro (by first | exact (fun _ => HS.out _ (hC.alloc (hC.size) _)) | exact HS.out _ (hC.alloc (hC.size) _)) ?_
       have hzC : C58.heap.size < (C58.alloc (.cells #[.int .i64 x] 3)).heap.size := by simp
       have hlC : Wd.heap.size ≤ C58.heap.size := hC.size
       have hbA : Below C58.heap.size C58 (C58.alloc (.cells #[.int .i64 x] 3)) := (Below.refl _ _).alloc (Nat.le_refl _) _
       have X5 := Blk.new C58 #[.int .i64 x] 3
       have XB := XB.ext hbA
       have hC := hC.alloc (hC.size) (.cells #[.int .i64 x] 3)
       generalize hN : C58.alloc (.cells #[.int .i64 x] 3) = C68 at *
       clear hN
       have hL5 : C58.heap.size < C68.heap.size := by omega
       clear hbA hzC
       rw [q_step]
       simp only [List.getElem?_toArray, List.getElem?_cons_succ, List.getElem?_cons_zero]
       go_wp2_with fail
       refine And.intro (by first | exact (fun _ => HS.out _ (hC.alloc (hC.size) _)) | exact HS.out _ (hC.alloc (hC.size) _)) ?_
       have hzC : C68.heap.size < (C68.alloc (.cells #[] 3)).heap.size := by simp
       have hlC : Wd.heap.size ≤ C68.heap.size := hC.size
       have hbA : Below C68.heap.size C68 (C68.alloc (.cells #[] 3)) := (Below.refl _ _).alloc (Nat.le_refl _) _
       have HO : Hid (OwnInts (C68.alloc (.cells #[] 3)) Wd.heap.size (.slice (some ⟨C68.heap.size, 0, none⟩) 0 0) []) := OwnInts.lit C68 Wd.heap.size [] hlC (by decide)
       have X5 := X5.ext hbA
       have XB := XB.ext hbA
       have hC := hC.alloc (hC.size) (.cells #[] 3)
       generalize hN : C68.alloc (.cells #[] 3) = C69 at *
       clear hN
       have hne5 : C58.heap.size ≠ C68.heap.size := by have := X5.lt; have := hL5; omega
       have hL1 : C68.heap.size < C69.heap.size := by omega
       have hL5 : C58.heap.size < C69.heap.size := by omega
       clear hbA hzC
       rw [q_step]
       simp only [List.getElem?_toArray, List.getElem?_cons_succ, List.getElem?_cons_zero]
       refine append_ints (v := .slice (some ⟨C68.heap.size, 0, none⟩) 0 0) (xs := []) (base := Wd.heap.size) (src := .slice mad M.length mcap) (l := M) rfl _ _ rfl rfl HO.out rfl (HMd.out.ext hC) (by simp; omega) (by exact hC.size) ?_
       intro vx C70 hox hg _
       have hbA : Below Wd.heap.size C69 C70 := grown_own HO.out hg hC.size
       have XB := grown_keep hg XB (own_ne_val HO.out XB)
       have X5 := grown_keep hg X5 (fun e => hne5 (by simpa [Value.ownBlock] using e.symm))
       have hC := hC.trans hbA
       have HO := Lib.hid hox
       clear hbA hg hox
       refine And.intro (by first | exact (fun _ => HS.out _ hC) | exact HS.out _ hC) ?_
       simp only [Act.put, List.setIfInBounds_toArray, List.set_cons_zero, List.set_cons_succ]
       have hL5 : C58.heap.size < C70.heap.size := X5.lt
       rw [q_step]
       simp only [List.getElem?_toArray, List.getElem?_cons_succ, List.getElem?_cons_zero]
       refine append_ints (v := vx) (xs := [] ++ M) (base := Wd.heap.size) (src := .slice (some ⟨C58.heap.size, 0, none⟩) 1 1) (l := [x]) rfl _ _ rfl rfl HO.out rfl (one_at x HX.out X5) (by simp; omega) (by exact hC.size) ?_
       intro vy C71 hoy hg _
       have hbA : Below Wd.heap.size C70 C71 := grown_own HO.out hg hC.size
       have XB := grown_keep hg XB (own_ne_val HO.out XB)
       have hC := hC.trans hbA
       have HY := Lib.hid (show IntsAt C71 vy (M ++ [x]) from by have := hoy.at HIN.out; simpa using this)
       clear hbA hg hoy HO X5
       refine And.intro (by first | exact (fun _ => HS.out _ hC) | exact HS.out _ hC) ?_
       simp only [Act.put, List.setIfInBounds_toArray, List.set_cons_zero, List.set_cons_succ]
       rw [q_step]
       simp only [List.getElem?_toArray, List.getElem?_cons_succ, List.getElem?_cons_zero]
       go_wp2_with fail
       refine (replay_any g (M ++ [x]) _ _ C71 (HG.out.ext (hBd.trans (hC.mono hBd.size))) HY.out).mono ?_
       rw [HP3.out, errV_ne (show (3 : Int) ≠ 0 by omega)]
       rintro _ C72 ⟨⟨rv, rfl, hrv⟩, hb5⟩
       obtain ⟨rl, rn, rk, rad, rcap, rfl⟩ := hrv.shape
       have XB := XB.ext hb5
       have hC := hC.trans (hb5.mono hC.size)
       clear hb5 hrv HY
       go_wp2_with fail
       refine And.intro (by first | exact (fun _ => HS.out _ hC) | exact HS.out _ hC) ?_
       iterate 3
         rw [q_take]
         simp only [List.getElem?_toArray, List.getElem?_cons_succ, List.getElem?_cons_zero]
         refine ⟨?_, .inl ⟨by rfl, ?_⟩, (HS.out _ hC), ?_⟩
         rotate_left
         · rintro w' _
           go_simp
           rfl
         simp only [Act.put, List.setIfInBounds_toArray, List.set_cons_zero, List.set_cons_succ]
       have hbx : Wd.heap.size ≤ Wd.heap.size := hlX
       have h0 := XB.cell 0
       have h1 := XB.cell 1
       have h2 := XB.cell 2
       simp only [List.getElem?_toArray, List.getElem?_cons_succ, List.getElem?_cons_zero] at h0 h1 h2
       have u0 := XB.unfrozen 0
       have u1 := XB.unfrozen 1
       have u2 := XB.unfrozen 2
       rw [q_step]
       simp only [List.getElem?_toArray, List.getElem?_cons_succ, List.getElem?_cons_zero]
       go_wp2_with fail
       have hC := ((hC.setCell (p := ⟨Wd.heap.size, 0, none⟩) hbx (.bool rl)).setCell (p := ⟨Wd.heap.size, 1, none⟩) hbx (.int .i64 rn)).setCell (p := ⟨Wd.heap.size, 2, none⟩) hbx (.slice rad rk rcap)
       clear h0 h1 h2 u0 u1 u2 XB
       refine And.intro (by first | exact (fun _ => HS.out _ hC) | exact HS.out _ hC) ?_
       rw [q_step]
       simp only [List.getElem?_toArray, List.getElem?_cons_succ, List.getElem?_cons_zero]
       go_wp2_with fail
       refine And.intro (fun h => absurd h (by decide)) ?_
       rw [q_done]
       generalize (((C72.setCell ⟨Wd.heap.size, 0, none⟩ (.bool rl)).setCell ⟨Wd.heap.size, 1, none⟩ (.int .i64 rn)).setCell ⟨Wd.heap.size, 2, none⟩ (.slice rad rk rcap)) = WF at *
       go_wp2_with fail
       go_meet
       exact ⟨rfl, hWd.trans (hC.mono hWd.size)⟩
  case rest =>
    obtain ⟨rfl, hb⟩ := hcut
    have hB9 := hB2.trans (hb.mono hB2.size)
    have X0 := X0.ext hb
    have HMV := Lib.hid (HMV.out.ext hb)
    have HE9 := Lib.hid (HE.out.ext hB9)
    have C3 := Lib.hid (error_yes 3 wc HE9.out)
    rw [errV_ne (show (3 : Int) ≠ 0 by omega)] at C3
    clear hb HP3 HIN hB2
    go_wp2_with fail
    refine C3.out.mono ?_
    rintro _ W10 ⟨rfl, hb10⟩
    have hB10 := hB9.trans (hb10.mono hB9.size)
    have X0 := X0.ext hb10
    have HMV := Lib.hid (HMV.out.ext hb10)
    have HE10 := Lib.hid (HE9.out.ext hb10)
    clear hb10 C3 hB9
    by_cases h1 : k < 0
    · go_wp2_with fail
      go_ret
      exact ⟨rfl, hB10⟩
    · by_cases h2 : (M.length : Int) ≤ k
      · go_wp2_with fail
        go_ret
        exact ⟨rfl, hB10⟩
      · obtain ⟨K, rfl⟩ := Int.eq_ofNat_of_zero_le (by omega : 0 ≤ k)
        have hKM : K < M.length := by omega
        have HT5 := Lib.hid (HP5.out K hKM)
        have p1 : (K : Int) ≤ (mcap : Int) := by omega
        have p0 : (0 : Int) ≤ (K : Int) := by omega
        have HTK := Lib.hid (ints_take HMV.out hKM)
        go_wp2_with fail
        have s0 := X0.cell 0
        have s1 := X0.cell 1
        have s2 := X0.cell 2
        have s3 := X0.cell 3
        simp only [List.getElem?_toArray, List.getElem?_cons_succ, List.getElem?_cons_zero] at s0 s1 s2 s3
        refine region_mov (S := fun w' => w'.cell? ⟨w.heap.size, 0, none⟩ = some (.int .i64 k0) ∧ w'.cell? ⟨w.heap.size, 1, none⟩ = some (.int .i64 a0) ∧ w'.cell? ⟨w.heap.size, 2, none⟩ = some (.int .i64 b0) ∧ w'.cell? ⟨w.heap.size, 3, none⟩ = some (.slice ad0 n0 c0)) (n := 8) (ms := [(true, 0), (true, 1), (true, 2), (true, 3), (false, 4), (true, 5), (true, 6), (true, 7), (false, 8)]) (hm := by kernel_rfl) (hB := by kernel_rfl) (hQ := fun c a d v w h => by cases d <;> exact h) ?_
        have HS0 : Hid ((fun w' => w'.cell? ⟨w.heap.size, 0, none⟩ = some (.int .i64 k0) ∧ w'.cell? ⟨w.heap.size, 1, none⟩ = some (.int .i64 a0) ∧ w'.cell? ⟨w.heap.size, 2, none⟩ = some (.int .i64 b0) ∧ w'.cell? ⟨w.heap.size, 3, none⟩ = some (.slice ad0 n0 c0)) W10.drew) := ⟨s0, s1, s2, s3⟩
        iterate 4
          rw [mov_take]
          simp only [List.getElem?_toArray, List.getElem?_cons_succ, List.getElem?_cons_zero]
          refine ⟨?_, .inl ⟨by rfl, ?_⟩, HS0.out, ?_⟩
          rotate_left
          · rintro w' ⟨s0, s1, s2, s3⟩
            go_simp
            rfl
          simp only [Act.put, List.setIfInBounds_toArray, List.set_cons_zero, List.set_cons_succ]
        have hBd : Below w.heap.size w W10.drew := hB10.drew
        have HTD := Lib.hid (HTK.out.ext (Below.drew (Below.refl _ _) : Below W10.heap.size W10 W10.drew))
        have HED := Lib.hid (HE10.out.ext (Below.drew (Below.refl _ _) : Below W10.heap.size W10 W10.drew))
        have XD0 : Blk W10.drew w.heap.size #[.int .i64 k0, .int .i64 a0, .int .i64 b0, .slice ad0 n0 c0] 41 := X0
        clear s0 s1 s2 s3 X0 HMV HS0 hB10 HTK HE10
        generalize W10.drew = Wd at *
        have HS : Hid (∀ W', Below Wd.heap.size Wd W' → (fun w' => w'.cell? ⟨w.heap.size, 0, none⟩ = some (.int .i64 k0) ∧ w'.cell? ⟨w.heap.size, 1, none⟩ = some (.int .i64 a0) ∧ w'.cell? ⟨w.heap.size, 2, none⟩ = some (.int .i64 b0) ∧ w'.cell? ⟨w.heap.size, 3, none⟩ = some (.slice ad0 n0 c0)) W') := fun W' h => ⟨(XD0.ext h).cell 0, (XD0.ext h).cell 1, (XD0.ext h).cell 2, (XD0.ext h).cell 3⟩
        rw [mov_step]
        simp only [List.getElem?_toArray, List.getElem?_cons_succ, List.getElem?_cons_zero]
        go_wp2_with fail
        refine (replay_any g (M.take K) _ _ Wd (HG.out.ext hBd) HTD.out).mono ?_
        rw [HT5.out]
        rintro _ W11 ⟨⟨rv, rfl, hrv⟩, hb11⟩
        have hB11 := hBd.trans (hb11.mono hBd.size)
        have C5 := Lib.hid (error_yes 5 W11 (HED.out.ext hb11))
        rw [errV_ne (show (5 : Int) ≠ 0 by omega)] at C5 ⊢
        clear hrv
        go_wp2_with fail
        refine And.intro (fun _ => HS.out _ hb11) ?_
        iterate 3
          rw [mov_take]
          simp only [List.getElem?_toArray, List.getElem?_cons_succ, List.getElem?_cons_zero]
          refine ⟨?_, .inl ⟨by rfl, ?_⟩, (HS.out _ hb11), ?_⟩
          rotate_left
          · rintro w' _
            go_simp
            rfl
          simp only [Act.put, List.setIfInBounds_toArray, List.set_cons_zero, List.set_cons_succ]
        rw [mov_step]
        simp only [List.getElem?_toArray, List.getElem?_cons_succ, List.getElem?_cons_zero]
        go_wp2_with fail
        refine And.intro (fun h => absurd h (by omega)) ?_
        rw [wpMov]
        go_wp2_with fail
        refine C5.out.mono ?_
        rintro _ W12 ⟨rfl, hb12⟩
        have hB12 := hB11.trans (hb12.mono hB11.size)
        go_wp2_with fail
        go_ret
        exact ⟨rfl, hB12⟩
end Go.Proofs.YtcecpggkeaohnaaDoor
