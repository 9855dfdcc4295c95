/- Plain laws of runs: one value after the other by chance, up to one that fails. No program in sight. The walk through runs.Run. The walk through same.Report. -/
import Derived.Test.YtibmnifenfingaaGreatDoorSHA
import Derived.Test.YtibmnifenfingaaGreatDoorDRW
import Derived.Test.YtibmnifenfingaaGreatDoorTape
import Derived.Test.YtibmnifenfingaaGreatDoorRngS
namespace Go.Proofs.YtibmnifenfingaaGreatDoor
set_option maxRecDepth 100000
set_option linter.unusedSimpArgs false
set_option linter.unusedVariables false
/-- The seed then, and the run's own one. -/
def nextS (s : Nat × Nat) : Nat × Nat := (((s.1 + s.2) % 18446744073709551616 + s.2) % 18446744073709551616, s.2)
def ownS (s : Nat × Nat) : Nat × Nat := (PRng.mix ((s.1 + s.2) % 18446744073709551616), PRng.mix (((s.1 + s.2) % 18446744073709551616 + s.2) % 18446744073709551616) ||| 1)
def firstS (n : Int) : Nat × Nat := ((n % 18446744073709551616).toNat, 11400714819323198485)
def SeedFit (s : Nat × Nat) : Prop := s.1 < 18446744073709551616 ∧ s.2 < 18446744073709551616
theorem first_fit (n : Int) : SeedFit (firstS n) := ⟨by unfold firstS; dsimp only; omega, by unfold firstS; dsimp only; omega⟩
theorem next_fit {s : Nat × Nat} (h : SeedFit s) : SeedFit (nextS s) := ⟨by unfold nextS; dsimp only; omega, h.2⟩
theorem own_fit (s : Nat × Nat) : SeedFit (ownS s) := ⟨PRng.mix_lt _, by
  unfold ownS
  have := Nat.or_lt_two_pow (n := 64) (x := PRng.mix (((s.1 + s.2) % 18446744073709551616 + s.2) % 18446744073709551616)) (y := 1) (by have := PRng.mix_lt (((s.1 + s.2) % 18446744073709551616 + s.2) % 18446744073709551616); simpa using this) (by decide)
  simpa using this⟩
/-- A report. -/
structure Rep where
  runs : Nat
  failed : Bool
  tape : List Int
  steps : Nat
/-- So many runs more; so many are made. -/
def runF (g : GT) (x : ET) : Nat → Nat × Nat → Nat → Rep
  | 0, _, r => ⟨r, false, [], 0⟩
  | n + 1, s, r => if badR g x (drawR g (ownS s)) then ⟨r + 1, true, (walkR g x (drawR g (ownS s))).1, (walkR g x (drawR g (ownS s))).2⟩ else runF g x n (nextS s) (r + 1)
def runR (g : GT) (x : ET) (n : Int) (many : Nat) : Rep := runF g x many (firstS n) 0
/-- What is wrong with a run. -/
def runErr (g : GT) (x : ET) (many : Int) : Int := if GT.check g ≠ 0 then GT.check g else if ET.check x ≠ 0 then ET.check x else if many < 0 ∨ 50 < many then 1 else 0
theorem runErr_zero {g : GT} {x : ET} {many : Int} (h : runErr g x many = 0) : GT.check g = 0 ∧ ET.check x = 0 ∧ 0 ≤ many ∧ many ≤ 50 := by
  unfold runErr at h
  split at h
  · omega
  · split at h
    · omega
    · split at h <;> omega
theorem runErr_of {g : GT} {x : ET} {many : Int} (h1 : GT.check g = 0) (h2 : ET.check x = 0) (h3 : 0 ≤ many) (h4 : many ≤ 50) : runErr g x many = 0 := by
  unfold runErr
  rw [if_neg (by omega), if_neg (by omega), if_neg (by omega)]
theorem drawn_play {g : GT} (hc : GT.check g = 0) (s : Nat × Nat) : (playR g (drawR g s)).2 = 0 := by
  obtain ⟨t, h⟩ := play_drawn g hc s
  rw [h]
/-- WHAT IS TOLD: none failed, and all were made; or the last one failed, and its tape is walked to the least. -/
theorem runF_law (g : GT) (x : ET) (hc : GT.check g = 0) : ∀ (n : Nat) (s : Nat × Nat) (r : Nat),
    ((runF g x n s r).failed = false ∧ (runF g x n s r).runs = r + n ∧ (runF g x n s r).tape = [] ∧ (runF g x n s r).steps = 0) ∨
    ((runF g x n s r).failed = true ∧ r + 1 ≤ (runF g x n s r).runs ∧ (runF g x n s r).runs ≤ r + n ∧
      ∃ t, (playR g t).2 = 0 ∧ badR g x t = true ∧ (runF g x n s r).tape = (walkR g x t).1 ∧ (runF g x n s r).steps = (walkR g x t).2) := by
  intro n
  induction n with
  | zero => intro s r; exact .inl ⟨rfl, rfl, rfl, rfl⟩
  | succ n ih =>
    intro s r
    simp only [runF]
    split
    · rename_i hb
      exact .inr ⟨rfl, by dsimp only; omega, by dsimp only; omega, _, drawn_play hc _, hb, rfl, rfl⟩
    · rcases ih (nextS s) (r + 1) with ⟨h1, h2, h3, h4⟩ | ⟨h1, h2, h3, t, h4⟩
      · exact .inl ⟨h1, by omega, h3, h4⟩
      · exact .inr ⟨h1, by omega, by omega, t, h4⟩
/-- Steps of a report fit. -/
theorem runF_fit (g : GT) (x : ET) (hc : GT.check g = 0) (n : Nat) (s : Nat × Nat) (r : Nat) : (runF g x n s r).steps ≤ 1401079680 ∧ (runF g x n s r).runs ≤ r + n := by
  rcases runF_law g x hc n s r with ⟨_, h2, _, h4⟩ | ⟨_, _, h3, t, h4, h5, _, h7⟩
  · omega
  · have h8 := hgt_le h4
    have h9 := (walk_law _ t (Nat.le_refl _) h4 h5).2.2.2.1
    omega
/-- THE SAME AGAIN: with more runs. -/
theorem runF_more (g : GT) (x : ET) : ∀ (n m : Nat) (s : Nat × Nat) (r : Nat),
    ((runF g x n s r).failed = true → (runF g x n s r).runs ≤ r + m → runF g x m s r = runF g x n s r) ∧
    ((runF g x n s r).failed = true → r + m < (runF g x n s r).runs → (runF g x m s r).failed = false ∧ (runF g x m s r).runs = r + m) ∧
    ((runF g x n s r).failed = false → m ≤ n → (runF g x m s r).failed = false ∧ (runF g x m s r).runs = r + m) := by
  intro n
  induction n with
  | zero =>
    intro m s r
    refine ⟨fun h => by simp [runF] at h, fun h => by simp [runF] at h, fun _ hm => ?_⟩
    have : m = 0 := by omega
    subst this
    exact ⟨rfl, rfl⟩
  | succ n ih =>
    intro m s r
    cases m with
    | zero =>
      refine ⟨fun h h2 => ?_, fun h h2 => ⟨rfl, rfl⟩, fun _ _ => ⟨rfl, rfl⟩⟩
      exfalso
      simp only [runF] at h h2
      split at h2
      · dsimp only at h2; omega
      · have : ∀ (n : Nat) (s : Nat × Nat) (r : Nat), (runF g x n s r).failed = true → r + 1 ≤ (runF g x n s r).runs := by
          intro n
          induction n with
          | zero => intro s r h; simp [runF] at h
          | succ n ih =>
            intro s r h
            simp only [runF] at h ⊢
            split
            · dsimp only; omega
            · rename_i hb
              rw [if_neg hb] at h
              have := ih _ _ h
              omega
        rename_i hb
        rw [if_neg hb] at h
        have := this _ _ _ h
        omega
    | succ m =>
      simp only [runF]
      by_cases hb : badR g x (drawR g (ownS s)) = true
      · rw [if_pos hb, if_pos hb]
        refine ⟨fun _ _ => rfl, fun _ h => ?_, fun h => by simp at h⟩
        dsimp only at h
        omega
      · rw [if_neg hb, if_neg hb]
        obtain ⟨h1, h2, h3⟩ := ih m (nextS s) (r + 1)
        refine ⟨fun h k => h1 h (by omega), fun h k => ?_, fun h k => ?_⟩
        · have := h2 h (by omega); exact ⟨this.1, by omega⟩
        · have := h3 h (by omega); exact ⟨this.1, by omega⟩
/-- What never fails does not. -/
theorem runF_never (g : GT) (x : ET) (hx : ∀ t, badR g x t = false) : ∀ (n : Nat) (s : Nat × Nat) (r : Nat), (runF g x n s r).failed = false ∧ (runF g x n s r).runs = r + n := by
  intro n
  induction n with
  | zero => intro s r; exact ⟨rfl, rfl⟩
  | succ n ih =>
    intro s r
    simp only [runF, hx]
    have := ih (nextS s) (r + 1)
    exact ⟨this.1, by simp; omega⟩
end Go.Proofs.YtibmnifenfingaaGreatDoor
namespace Go.Proofs.YtibmnifenfingaaGreatDoor
set_option maxRecDepth 100000
open Go.RowKit
set_option linter.unusedSimpArgs false
set_option linter.unusedVariables false
theorem IntsS.keep' {w w' : World} {S : Nat → Prop} {v : Value} {l : List Int} (h : IntsS w S v l) (hz : w.heap.size ≤ w'.heap.size) (hb : ∀ b, S b → b < w.heap.size → w'.heap[b]? = w.heap[b]?) : IntsS w' S v l := IntsS.reads.keep h hz (fun b hs hl => ⟨hs, hb b hs hl⟩)
/-- A report, as it reads. -/
def RepAt (w : World) (v : Value) (r : Rep) : Prop := ∃ tv, v = .agg #[.int .i64 (r.runs : Nat), .bool r.failed, tv, .int .i64 (r.steps : Nat)] ∧ IntsAt w tv r.tape
theorem RepAt.ext {w w' : World} {v : Value} {r : Rep} (h : RepAt w v r) (hb : Below w.heap.size w w') : RepAt w' v r := by
  obtain ⟨tv, e, h1⟩ := h
  exact ⟨tv, e, h1.ext hb⟩
/-- Where the loop stands. -/
structure RunI (g : GT) (x : ET) (R : Rep) (W : World) (many pr : Nat) (s : Nat × Nat) (r k ps : Nat) (wr : World) : Prop where
  below : Below W.heap.size W wr
  rep : Blk wr pr #[.int .i64 (r : Nat), .bool false, .slice none 0 0, .int .i64 0] 34
  seed : Blk wr ps #[.int .u64 s.1, .int .u64 s.2] 57
  lp : W.heap.size ≤ pr
  ls : W.heap.size ≤ ps
  ne : ps ≠ pr
  fit : SeedFit s
  sum : r + k = many
  eq : R = runF g x k s r
theorem seed_at {s : Nat × Nat} (h : SeedFit s) : SeedAt (.agg #[.int .u64 s.1, .int .u64 s.2]) s := ⟨rfl, h.1, h.2⟩
theorem split_seed (s : Nat × Nat) (w : World) : Calls Tryz.prog 26 #[.agg #[.int .u64 s.1, .int .u64 s.2]] w fun e w' =>
    e = .returned (.tuple #[.agg #[.int .u64 (nextS s).1, .int .u64 (nextS s).2], .agg #[.int .u64 (ownS s).1, .int .u64 (ownS s).2]]) ∧ Below w.heap.size w w' := split_any s.1 s.2 w
theorem new_seed (n : Int) (w : World) : Calls Tryz.prog 25 #[.int .i64 n] w fun e w' => e = .returned (.agg #[.int .u64 (firstS n).1, .int .u64 (firstS n).2]) ∧ Below w.heap.size w w' := new_any n w
set_option maxHeartbeats 8000000 in
theorem run_ok (g : GT) (x : ET) (n : Int) (many : Nat) (hm : many ≤ 50) (hc : GT.check g = 0) (hx : ET.check x = 0) (gv xv : Value) (w : World) (hT : TakesAt w) (hg : GenAt w gv g) (hxv : ExprAt w xv x) :
    Calls Tryz.prog 9 #[gv, xv, .int .i64 n, .int .i64 (many : Nat)] w fun e w' => (∃ v, e = .returned (.tuple #[v, .nilIface]) ∧ RepAt w' v (runR g x n many)) ∧ Below w.heap.size w w' := by
  have C1 := Lib.hid (fun W (h : Below w.heap.size w W) => check_any g gv W (hg.ext h))
  have C2 := Lib.hid (fun W (h : Below w.heap.size w W) => xcheck_any x xv W (hT.ext h) (hxv.ext h))
  have C3 := Lib.hid (fun sv s W (h : Below w.heap.size w W) hs => draw_any g gv sv hc W (hg.ext h) s hs)
  have C4 := Lib.hid (fun t tv W hb (h : Below w.heap.size w W) ht => shrink_ok g x (drawR g t) (drawn_play hc t) hx hb gv xv tv W (hT.ext h) (hg.ext h) (hxv.ext h) ht)
  have C5 := Lib.hid (fun t tv W hb (h : Below w.heap.size w W) ht => shrink_bad g x (drawR g t) (by rw [shErr_none (drawn_play hc t) hx hb]; omega) gv xv tv W (hT.ext h) (hg.ext h) (hxv.ext h) ht)
  have HE5 := Lib.hid (fun t hb => shErr_none (g := g) (x := x) (t := drawR g t) (drawn_play hc t) hx hb)
  have HC := Lib.hid hc
  have HX := Lib.hid hx
  rw [hc] at C1
  rw [hx] at C2
  simp only [errV_zero] at C1 C2
  have HR : Hid (runR g x n many = runF g x many (firstS n) 0) := rfl
  obtain ⟨gK, ga, gb, gn, gad, gcap, rfl⟩ := hg.shape
  obtain ⟨xk, xn, xs, xad, xcap, rfl⟩ := hxv.shape
  clear hg hxv hT hc hx
  have q1 : ¬ (many : Int) < 0 := by omega
  have q2 : ¬ (50 : Int) < (many : Int) := by omega
  go_enter Tryz.func9, Tryz.ntmps9
  go_wp2_with fail
  refine (C1.out _ (by repeat (first | with_reducible assumption | with_reducible exact Below.refl _ _ | with_reducible apply Below.drew | (with_reducible refine Below.alloc ?_ (by first | omega | (simp only [zA, zS, zD, zN]; omega) | (dsimp only; omega) | (simp only [zA, zS, zD, zN]; dsimp only; omega)) _) | (with_reducible refine Below.setCell ?_ (by first | omega | (simp only [zA, zS, zD, zN]; omega) | (dsimp only; omega) | (simp only [zA, zS, zD, zN]; dsimp only; omega)) _) | (with_reducible apply below_drewN)))).mono ?_
  rintro _ w1 ⟨rfl, hb1⟩
  have hB1 : Below w.heap.size w w1 := Below.trans (by repeat (first | with_reducible assumption | with_reducible exact Below.refl _ _ | with_reducible apply Below.drew | (with_reducible refine Below.alloc ?_ (by first | omega | (simp only [zA, zS, zD, zN]; omega) | (dsimp only; omega) | (simp only [zA, zS, zD, zN]; dsimp only; omega)) _) | (with_reducible refine Below.setCell ?_ (by first | omega | (simp only [zA, zS, zD, zN]; omega) | (dsimp only; omega) | (simp only [zA, zS, zD, zN]; dsimp only; omega)) _) | (with_reducible apply below_drewN))) (hb1.mono (by first | omega | (simp only [zA, zS, zD, zN]; omega) | (dsimp only; omega) | (simp only [zA, zS, zD, zN]; dsimp only; omega)))
  have x0 := (((Blk.new w #[.int .i64 gK, .int .i64 ga, .int .i64 gb, .slice gad gn gcap] 24).alloc (.cells #[.int .i64 xk, .int .i64 xn, .slice xad xs xcap] 27)).alloc (.cells #[.int .i64 0, .bool false, .slice none 0 0, .int .i64 0] 34)).ext hb1
  have x1 := ((Blk.new (w.alloc (.cells #[.int .i64 gK, .int .i64 ga, .int .i64 gb, .slice gad gn gcap] 24)) #[.int .i64 xk, .int .i64 xn, .slice xad xs xcap] 27).alloc (.cells #[.int .i64 0, .bool false, .slice none 0 0, .int .i64 0] 34)).ext hb1
  have x2 := (Blk.new ((w.alloc (.cells #[.int .i64 gK, .int .i64 ga, .int .i64 gb, .slice gad gn gcap] 24)).alloc (.cells #[.int .i64 xk, .int .i64 xn, .slice xad xs xcap] 27)) #[.int .i64 0, .bool false, .slice none 0 0, .int .i64 0] 34).ext hb1
  simp only [World.size_alloc] at x1 x2
  clear hb1 C1
  have f0 := x1.cell 0
  have f1 := x1.cell 1
  have f2 := x1.cell 2
  simp only [List.getElem?_toArray, List.getElem?_cons_succ, List.getElem?_cons_zero] at f0 f1 f2
  go_wp2_with fail
  refine (C2.out _ hB1).mono ?_
  rintro _ w2 ⟨rfl, hb2⟩
  have hB2 := hB1.trans (hb2.mono hB1.size)
  have x0 := x0.ext hb2
  have x1 := x1.ext hb2
  have x2 := x2.ext hb2
  clear f0 f1 f2 hb2 C2
  go_wp2_with fail
  refine (new_seed n _).mono ?_
  rintro _ w3 ⟨rfl, hb3⟩
  have hz2 := x2.lt
  have hb3' : Below w2.heap.size w2 w3 := ((Below.refl _ _).alloc (Nat.le_refl _) _).trans (hb3.mono (by simp))
  have hB3 := hB2.trans (hb3'.mono hB2.size)
  have xr := (Blk.new w2 #[.int .i64 0, .bool false, .slice none 0 0, .int .i64 0] 34).ext hb3
  have hz3 := xr.lt
  have hbl3 := hb3'.size
  clear hb3
  go_wp2_with fail
  have HI : Hid (RunI g x (runR g x n many) w2 many w2.heap.size (firstS n) 0 many w3.heap.size (w3.alloc (.cells #[.int .u64 (firstS n).1, .int .u64 (firstS n).2] 57))) :=
    ⟨hb3'.alloc (by omega) _, xr.alloc _, Blk.new _ _ _, by omega, by omega, by omega, first_fit n, by omega, HR.out⟩
  have hlp : w.heap.size + 1 + 1 < w2.heap.size := hz2
  clear xr hz3 hbl3 hb3' HR hB3
  obtain ⟨pr, hpr⟩ : ∃ pr, pr = w2.heap.size := ⟨_, rfl⟩
  obtain ⟨sz2, hsz2⟩ : ∃ sz2, sz2 = w2.heap.size := ⟨_, rfl⟩
  rw [← hpr] at HI hz2 hlp ⊢
  have HPR := Lib.hid hpr
  have hpr2 : w2.heap.size ≤ pr := by omega
  have hl2w : w.heap.size + 1 + 1 < w2.heap.size := x2.lt
  clear hpr hsz2
  go_loopg [13] many (fun k sp wr => ∃ s r ps, sp = .pointer (some ⟨ps, 0, none⟩) ∧ RunI g x (runR g x n many) w2 many pr s r k ps wr)
  case atStart => exact ⟨_, _, _, rfl, HI.out⟩
  case round =>
    obtain ⟨s, r, ps, rfl, hI⟩ := hrel
    have HI2 := Lib.hid hI
    have hbr := hI.below
    have hzr := hbr.size
    have hsum := hI.sum
    have hne := hI.ne
    have hls := hI.ls
    have hBr := hB2.trans (hbr.mono hB2.size)
    have y0 := x0.ext hbr
    have y1 := x1.ext hbr
    have y2 := x2.ext hbr
    have yr := hI.rep
    have ys := hI.seed
    clear hI HI
    cases gk with
    | zero =>
      have p1 : ¬ (r : Int) < (many : Int) := by omega
      have r0 := yr.cell 0
      have r1 := yr.cell 1
      have r2 := yr.cell 2
      have r3 := yr.cell 3
      simp only [List.getElem?_toArray, List.getElem?_cons_succ, List.getElem?_cons_zero] at r0 r1 r2 r3
      have v0 := y2.cell 0
      have v1 := y2.cell 1
      have v2 := y2.cell 2
      have v3 := y2.cell 3
      simp only [List.getElem?_toArray, List.getElem?_cons_succ, List.getElem?_cons_zero] at v0 v1 v2 v3
      have u0 := y2.unfrozen 0
      have u1 := y2.unfrozen 1
      have u2 := y2.unfrozen 2
      have u3 := y2.unfrozen 3
      have HX : Hid (runR g x n many = ⟨r, false, [], 0⟩) := HI2.out.eq
      have e2 := (((y2.set 0 (.int .i64 (r : Nat))).set 1 (.bool false)).set 2 (.slice none 0 0)).set 3 (.int .i64 0)
      simp only [List.setIfInBounds_toArray, List.set_cons_zero, List.set_cons_succ] at e2
      have hBf : Below w.heap.size w ((((wr.setCell ⟨w.heap.size + 1 + 1, 0, none⟩ (.int .i64 (r : Nat))).setCell ⟨w.heap.size + 1 + 1, 1, none⟩ (.bool false)).setCell ⟨w.heap.size + 1 + 1, 2, none⟩ (.slice none 0 0)).setCell ⟨w.heap.size + 1 + 1, 3, none⟩ (.int .i64 0)) := by repeat (first | with_reducible assumption | with_reducible exact Below.refl _ _ | with_reducible apply Below.drew | (with_reducible refine Below.alloc ?_ (by first | omega | (simp only [zA, zS, zD, zN]; omega) | (dsimp only; omega) | (simp only [zA, zS, zD, zN]; dsimp only; omega)) _) | (with_reducible refine Below.setCell ?_ (by first | omega | (simp only [zA, zS, zD, zN]; omega) | (dsimp only; omega) | (simp only [zA, zS, zD, zN]; dsimp only; omega)) _) | (with_reducible apply below_drewN))
      clear hsum
      go_wp2_with fail
      clear v0 v1 v2 v3 u0 u1 u2 u3 r0 r1 r2 r3
      generalize (((wr.setCell ⟨w.heap.size + 1 + 1, 0, none⟩ (.int .i64 (r : Nat))).setCell ⟨w.heap.size + 1 + 1, 1, none⟩ (.bool false)).setCell ⟨w.heap.size + 1 + 1, 2, none⟩ (.slice none 0 0)).setCell ⟨w.heap.size + 1 + 1, 3, none⟩ (.int .i64 0) = Wf at *
      have v0 := e2.cell 0
      have v1 := e2.cell 1
      have v2 := e2.cell 2
      have v3 := e2.cell 3
      simp only [List.getElem?_toArray, List.getElem?_cons_succ, List.getElem?_cons_zero] at v0 v1 v2 v3
      refine bodyPost_ret (v := .tuple #[.agg #[.int .i64 (r : Nat), .bool false, .slice none 0 0, .int .i64 0], .nilIface]) (by simp [results, Tryz.results9, go_sem, v0, v1, v2, v3]) rfl ?_
      rw [HX.out]
      exact ⟨⟨_, rfl, ⟨_, rfl, ⟨by simp, .inl ⟨rfl, rfl⟩⟩⟩⟩, hBf⟩
    | succ gk =>
      have p1 : (r : Int) < (many : Int) := by omega
      have r0 := yr.cell 0
      have r1 := yr.cell 1
      have r2 := yr.cell 2
      have r3 := yr.cell 3
      simp only [List.getElem?_toArray, List.getElem?_cons_succ, List.getElem?_cons_zero] at r0 r1 r2 r3
      have s0 := ys.cell 0
      have s1 := ys.cell 1
      simp only [List.getElem?_toArray, List.getElem?_cons_succ, List.getElem?_cons_zero] at s0 s1
      go_wp2_with fail
      refine (split_seed s _).mono ?_
      rintro _ w5 ⟨rfl, hb5⟩
      have hB5 := hBr.trans (hb5.mono hBr.size)
      have hb5' : Below w2.heap.size w2 w5 := hbr.trans (hb5.mono hzr)
      have y0 := y0.ext hb5
      have y1 := y1.ext hb5
      have y2 := y2.ext hb5
      have yr := yr.ext hb5
      have ys := ys.ext hb5
      have hlr := yr.lt
      have hlsd := ys.lt
      have hl2 := y2.lt
      have hz5 := hb5'.size
      clear r0 r1 r2 r3 s0 s1 hb5
      have r0 := yr.cell 0
      have r1 := yr.cell 1
      have r2 := yr.cell 2
      have r3 := yr.cell 3
      simp only [List.getElem?_toArray, List.getElem?_cons_succ, List.getElem?_cons_zero] at r0 r1 r2 r3
      have s0 := ys.cell 0
      have s1 := ys.cell 1
      simp only [List.getElem?_toArray, List.getElem?_cons_succ, List.getElem?_cons_zero] at s0 s1
      have g0 := y0.cell 0
      have g1 := y0.cell 1
      have g2 := y0.cell 2
      have g3 := y0.cell 3
      simp only [List.getElem?_toArray, List.getElem?_cons_succ, List.getElem?_cons_zero] at g0 g1 g2 g3
      have ur := yr.unfrozen 0
      have us0 := ys.unfrozen 0
      have us1 := ys.unfrozen 1
      have n1 : ¬ ps = pr := hne
      have n2 : ¬ pr = ps := fun e => hne e.symm
      have n3 : ¬ w.heap.size = pr := by omega
      have n4 : ¬ w.heap.size = ps := by omega
      have rb : (r : Int) ≤ 49 := by omega
      have rb0 : (0 : Int) ≤ (r : Int) := by omega
      clear hsum hne
      go_upto_region 15 with (fail)
      have hBn : Below w2.heap.size w2 (((((w5.setCell ⟨ps, 0, none⟩ (.int .u64 (nextS s).1)).setCell ⟨ps, 1, none⟩ (.int .u64 (nextS s).2)).setCell ⟨pr, 0, none⟩ (.int .i64 ((r : Int) + 1))).alloc (.cells #[.int .u64 (nextS s).1, .int .u64 (nextS s).2] 57)).alloc (.cells #[.int .u64 (ownS s).1, .int .u64 (ownS s).2] 57)) := by
        refine Below.alloc (Below.alloc (Below.setCell (Below.setCell (Below.setCell hb5' hls _) hls _) hpr2 _) ?_ _) ?_ _ <;> simp only [World.size_alloc, size_setCell] <;> omega
      have yN0 : Blk (((((w5.setCell ⟨ps, 0, none⟩ (.int .u64 (nextS s).1)).setCell ⟨ps, 1, none⟩ (.int .u64 (nextS s).2)).setCell ⟨pr, 0, none⟩ (.int .i64 ((r : Int) + 1))).alloc (.cells #[.int .u64 (nextS s).1, .int .u64 (nextS s).2] 57)).alloc (.cells #[.int .u64 (ownS s).1, .int .u64 (ownS s).2] 57)) w.heap.size #[.int .i64 gK, .int .i64 ga, .int .i64 gb, .slice gad gn gcap] 24 := ((((y0.oth ps 0 n4 _).oth ps 1 n4 _).oth pr 0 n3 _).alloc _).alloc _
      have n5 : w.heap.size + 1 ≠ ps := by omega
      have n6 : w.heap.size + 1 ≠ pr := by omega
      have n7 : w.heap.size + 1 + 1 ≠ ps := by omega
      have n8 : w.heap.size + 1 + 1 ≠ pr := by omega
      have yN1 : Blk (((((w5.setCell ⟨ps, 0, none⟩ (.int .u64 (nextS s).1)).setCell ⟨ps, 1, none⟩ (.int .u64 (nextS s).2)).setCell ⟨pr, 0, none⟩ (.int .i64 ((r : Int) + 1))).alloc (.cells #[.int .u64 (nextS s).1, .int .u64 (nextS s).2] 57)).alloc (.cells #[.int .u64 (ownS s).1, .int .u64 (ownS s).2] 57)) (w.heap.size + 1) #[.int .i64 xk, .int .i64 xn, .slice xad xs xcap] 27 := ((((y1.oth ps 0 n5 _).oth ps 1 n5 _).oth pr 0 n6 _).alloc _).alloc _
      have yN2 : Blk (((((w5.setCell ⟨ps, 0, none⟩ (.int .u64 (nextS s).1)).setCell ⟨ps, 1, none⟩ (.int .u64 (nextS s).2)).setCell ⟨pr, 0, none⟩ (.int .i64 ((r : Int) + 1))).alloc (.cells #[.int .u64 (nextS s).1, .int .u64 (nextS s).2] 57)).alloc (.cells #[.int .u64 (ownS s).1, .int .u64 (ownS s).2] 57)) (w.heap.size + 1 + 1) #[.int .i64 0, .bool false, .slice none 0 0, .int .i64 0] 34 := ((((y2.oth ps 0 n7 _).oth ps 1 n7 _).oth pr 0 n8 _).alloc _).alloc _
      have yNr : Blk (((((w5.setCell ⟨ps, 0, none⟩ (.int .u64 (nextS s).1)).setCell ⟨ps, 1, none⟩ (.int .u64 (nextS s).2)).setCell ⟨pr, 0, none⟩ (.int .i64 ((r : Int) + 1))).alloc (.cells #[.int .u64 (nextS s).1, .int .u64 (nextS s).2] 57)).alloc (.cells #[.int .u64 (ownS s).1, .int .u64 (ownS s).2] 57)) pr #[.int .i64 ((r : Int) + 1), .bool false, .slice none 0 0, .int .i64 0] 34 := by
        have := ((((yr.oth ps 0 n2 (.int .u64 (nextS s).1)).oth ps 1 n2 (.int .u64 (nextS s).2)).set 0 (.int .i64 ((r : Int) + 1))).alloc (.cells #[.int .u64 (nextS s).1, .int .u64 (nextS s).2] 57)).alloc (.cells #[.int .u64 (ownS s).1, .int .u64 (ownS s).2] 57)
        simpa using this
      have yNs : Blk (((((w5.setCell ⟨ps, 0, none⟩ (.int .u64 (nextS s).1)).setCell ⟨ps, 1, none⟩ (.int .u64 (nextS s).2)).setCell ⟨pr, 0, none⟩ (.int .i64 ((r : Int) + 1))).alloc (.cells #[.int .u64 (nextS s).1, .int .u64 (nextS s).2] 57)).alloc (.cells #[.int .u64 (ownS s).1, .int .u64 (ownS s).2] 57)) ps #[.int .u64 (nextS s).1, .int .u64 (nextS s).2] 57 := by
        have := ((((ys.set 0 (.int .u64 (nextS s).1)).set 1 (.int .u64 (nextS s).2)).oth pr 0 n1 (.int .i64 ((r : Int) + 1))).alloc (.cells #[.int .u64 (nextS s).1, .int .u64 (nextS s).2] 57)).alloc (.cells #[.int .u64 (ownS s).1, .int .u64 (ownS s).2] 57)
        simpa using this
      have yNo : Blk (((((w5.setCell ⟨ps, 0, none⟩ (.int .u64 (nextS s).1)).setCell ⟨ps, 1, none⟩ (.int .u64 (nextS s).2)).setCell ⟨pr, 0, none⟩ (.int .i64 ((r : Int) + 1))).alloc (.cells #[.int .u64 (nextS s).1, .int .u64 (nextS s).2] 57)).alloc (.cells #[.int .u64 (ownS s).1, .int .u64 (ownS s).2] 57)) (w5.heap.size + 1) #[.int .u64 (ownS s).1, .int .u64 (ownS s).2] 57 := by
        have := Blk.new ((((w5.setCell ⟨ps, 0, none⟩ (.int .u64 (nextS s).1)).setCell ⟨ps, 1, none⟩ (.int .u64 (nextS s).2)).setCell ⟨pr, 0, none⟩ (.int .i64 ((r : Int) + 1))).alloc (.cells #[.int .u64 (nextS s).1, .int .u64 (nextS s).2] 57)) #[.int .u64 (ownS s).1, .int .u64 (ownS s).2] 57
        simpa [size_setCell] using this
      clear r0 r1 r2 r3 s0 s1 g0 g1 g2 g3 ur us0 us1 y0 y1 y2 yr ys
      generalize (((((w5.setCell ⟨ps, 0, none⟩ (.int .u64 (nextS s).1)).setCell ⟨ps, 1, none⟩ (.int .u64 (nextS s).2)).setCell ⟨pr, 0, none⟩ (.int .i64 ((r : Int) + 1))).alloc (.cells #[.int .u64 (nextS s).1, .int .u64 (nextS s).2] 57)).alloc (.cells #[.int .u64 (ownS s).1, .int .u64 (ownS s).2] 57)) = W6 at *
      have hB6 := hB2.trans (hBn.mono hB2.size)
      have g0 := yN0.cell 0
      have g1 := yN0.cell 1
      have g2 := yN0.cell 2
      have g3 := yN0.cell 3
      simp only [List.getElem?_toArray, List.getElem?_cons_succ, List.getElem?_cons_zero] at g0 g1 g2 g3
      have o0 := yNo.cell 0
      have o1 := yNo.cell 1
      simp only [List.getElem?_toArray, List.getElem?_cons_succ, List.getElem?_cons_zero] at o0 o1
      go_wp2_with fail
      refine (C3.out _ (ownS s) _ hB6 (seed_at (own_fit s))).mono ?_
      rintro _ w7 ⟨⟨tv, rfl, htv⟩, hb7⟩
      have hB7 := hB6.trans (hb7.mono hB6.size)
      have hBn := hBn.trans (hb7.mono hBn.size)
      have yN0 := yN0.ext hb7
      have yN1 := yN1.ext hb7
      have yN2 := yN2.ext hb7
      have yNr := yNr.ext hb7
      have yNs := yNs.ext hb7
      have HTV := Lib.hid htv
      clear g0 g1 g2 g3 o0 o1 hb7 htv yNo
      have g0 := yN0.cell 0
      have g1 := yN0.cell 1
      have g2 := yN0.cell 2
      have g3 := yN0.cell 3
      simp only [List.getElem?_toArray, List.getElem?_cons_succ, List.getElem?_cons_zero] at g0 g1 g2 g3
      have f0 := yN1.cell 0
      have f1 := yN1.cell 1
      have f2 := yN1.cell 2
      simp only [List.getElem?_toArray, List.getElem?_cons_succ, List.getElem?_cons_zero] at f0 f1 f2
      go_wp2_with fail
      have HST : Hid (runR g x n many = if badR g x (drawR g (ownS s)) then ⟨r + 1, true, (walkR g x (drawR g (ownS s))).1, (walkR g x (drawR g (ownS s))).2⟩ else runF g x gk (nextS s) (r + 1)) := HI2.out.eq
      have HFIT := Lib.hid (next_fit HI2.out.fit)
      have HSUM := Lib.hid HI2.out.sum
      cases hbd : badR g x (drawR g (ownS s)) with
      | true =>
        have hlr7 := yNr.lt
        have HX : Hid (runR g x n many = ⟨r + 1, true, (walkR g x (drawR g (ownS s))).1, (walkR g x (drawR g (ownS s))).2⟩) := HST.out.trans (by rw [hbd]; rfl)
        refine (C4.out (ownS s) tv _ hbd hB7 HTV.out).mono ?_
        rintro _ w8 ⟨⟨mv, rfl, hmv⟩, hb8⟩
        have hB8 := hB7.trans (hb8.mono hB7.size)
        have yN2 := yN2.ext hb8
        have yNr := yNr.ext hb8
        have HMV := Lib.hid hmv
        obtain ⟨mad, mcap, rfl, _⟩ := hmv.at.form
        have hlo7 := hBn.size
        have hprl := yNr.lt
        have hl2l := yN2.lt
        clear g0 g1 g2 g3 f0 f1 f2 hb8 hmv hbd HST
        generalize (walkR g x (drawR g (ownS s))).2 = st at *
        generalize (walkR g x (drawR g (ownS s))).1 = ml at *
        have r0 := yNr.cell 0
        have r1 := yNr.cell 1
        have r2 := yNr.cell 2
        have r3 := yNr.cell 3
        simp only [List.getElem?_toArray, List.getElem?_cons_succ, List.getElem?_cons_zero] at r0 r1 r2 r3
        have ur0 := yNr.unfrozen 0
        have ur1 := yNr.unfrozen 1
        have ur2 := yNr.unfrozen 2
        have ur3 := yNr.unfrozen 3
        have v0 := yN2.cell 0
        have v1 := yN2.cell 1
        have v2 := yN2.cell 2
        have v3 := yN2.cell 3
        simp only [List.getElem?_toArray, List.getElem?_cons_succ, List.getElem?_cons_zero] at v0 v1 v2 v3
        have u0 := yN2.unfrozen 0
        have u1 := yN2.unfrozen 1
        have u2 := yN2.unfrozen 2
        have u3 := yN2.unfrozen 3
        have e2 := ((((((yN2.oth pr 1 n8 (.bool true)).oth pr 2 n8 (.slice mad ml.length mcap)).oth pr 3 n8 (.int .i64 (st : Nat))).set 0 (.int .i64 ((r : Int) + 1))).set 1 (.bool true)).set 2 (.slice mad ml.length mcap)).set 3 (.int .i64 (st : Nat))
        simp only [List.setIfInBounds_toArray, List.set_cons_zero, List.set_cons_succ] at e2
        have hBf : Below w.heap.size w (((((((w8.setCell ⟨pr, 1, none⟩ (.bool true)).setCell ⟨pr, 2, none⟩ (.slice mad ml.length mcap)).setCell ⟨pr, 3, none⟩ (.int .i64 (st : Nat))).setCell ⟨w.heap.size + 1 + 1, 0, none⟩ (.int .i64 ((r : Int) + 1))).setCell ⟨w.heap.size + 1 + 1, 1, none⟩ (.bool true)).setCell ⟨w.heap.size + 1 + 1, 2, none⟩ (.slice mad ml.length mcap)).setCell ⟨w.heap.size + 1 + 1, 3, none⟩ (.int .i64 (st : Nat))) := by
          refine Below.setCell (Below.setCell (Below.setCell (Below.setCell (Below.setCell (Below.setCell (Below.setCell hB8 ?_ _) ?_ _) ?_ _) ?_ _) ?_ _) ?_ _) ?_ _ <;> dsimp only <;> omega
        have HF : Hid (IntsAt (((((((w8.setCell ⟨pr, 1, none⟩ (.bool true)).setCell ⟨pr, 2, none⟩ (.slice mad ml.length mcap)).setCell ⟨pr, 3, none⟩ (.int .i64 (st : Nat))).setCell ⟨w.heap.size + 1 + 1, 0, none⟩ (.int .i64 ((r : Int) + 1))).setCell ⟨w.heap.size + 1 + 1, 1, none⟩ (.bool true)).setCell ⟨w.heap.size + 1 + 1, 2, none⟩ (.slice mad ml.length mcap)).setCell ⟨w.heap.size + 1 + 1, 3, none⟩ (.int .i64 (st : Nat))) (.slice mad ml.length mcap) ml) := by
          refine (HMV.out.keep' (by simp only [size_setCell]; exact Nat.le_refl _) fun b hb hlt => ?_).at
          have hb' : w7.heap.size ≤ b := hb
          rw [Below.heap_setCell _ _ _ _ (by dsimp only; omega), Below.heap_setCell _ _ _ _ (by dsimp only; omega), Below.heap_setCell _ _ _ _ (by dsimp only; omega), Below.heap_setCell _ _ _ _ (by dsimp only; omega), Below.heap_setCell _ _ _ _ (by dsimp only; omega), Below.heap_setCell _ _ _ _ (by dsimp only; omega), Below.heap_setCell _ _ _ _ (by dsimp only; omega)]
        go_wp2_with fail
        clear v0 v1 v2 v3 u0 u1 u2 u3 r0 r1 r2 r3 ur0 ur1 ur2 ur3
        generalize (((((((w8.setCell ⟨pr, 1, none⟩ (.bool true)).setCell ⟨pr, 2, none⟩ (.slice mad ml.length mcap)).setCell ⟨pr, 3, none⟩ (.int .i64 (st : Nat))).setCell ⟨w.heap.size + 1 + 1, 0, none⟩ (.int .i64 ((r : Int) + 1))).setCell ⟨w.heap.size + 1 + 1, 1, none⟩ (.bool true)).setCell ⟨w.heap.size + 1 + 1, 2, none⟩ (.slice mad ml.length mcap)).setCell ⟨w.heap.size + 1 + 1, 3, none⟩ (.int .i64 (st : Nat))) = Wf at *
        have v0 := e2.cell 0
        have v1 := e2.cell 1
        have v2 := e2.cell 2
        have v3 := e2.cell 3
        simp only [List.getElem?_toArray, List.getElem?_cons_succ, List.getElem?_cons_zero] at v0 v1 v2 v3
        refine bodyPost_ret (v := .tuple #[.agg #[.int .i64 ((r : Int) + 1), .bool true, .slice mad ml.length mcap, .int .i64 (st : Nat)], .nilIface]) (by simp [results, Tryz.results9, go_sem, v0, v1, v2, v3]) rfl ?_
        rw [HX.out]
        exact ⟨⟨_, rfl, ⟨_, by simp, HF.out⟩⟩, hBf⟩
      | false =>
        have HX : Hid (runR g x n many = runF g x gk (nextS s) (r + 1)) := HST.out.trans (by rw [hbd]; rfl)
        refine (C5.out (ownS s) tv _ hbd hB7 HTV.out).mono ?_
        rw [HE5.out _ hbd, errV_ne (show (2 : Int) ≠ 0 by omega)]
        rintro _ w8 ⟨rfl, hb8⟩
        have hB8 := hB7.trans (hb8.mono hB7.size)
        have hBn := hBn.trans (hb8.mono hBn.size)
        have yNr := yNr.ext hb8
        have yNs := yNs.ext hb8
        have hlsN := yNs.lt
        have hz8 := hBn.size
        clear g0 g1 g2 g3 f0 f1 f2 hb8 hbd HST
        have s0 := yNs.cell 0
        have s1 := yNs.cell 1
        simp only [List.getElem?_toArray, List.getElem?_cons_succ, List.getElem?_cons_zero] at s0 s1
        have hq := neq_errno 2 2
        go_wp2_with fail
        have HN : Hid (RunI g x (runR g x n many) w2 many pr (nextS s) (r + 1) gk w8.heap.size (w8.alloc (.cells #[.int .u64 (nextS s).1, .int .u64 (nextS s).2] 57))) :=
          ⟨hBn.alloc hz8 _, (yNr.alloc _), Blk.new _ _ _, hpr2, hz8, by have := yNr.lt; omega, HFIT.out, by have := HSUM.out; omega, HX.out⟩
        go_roundg gk
        case measure => omega
        case rel => exact ⟨_, _, _, rfl, HN.out⟩
set_option maxHeartbeats 4000000 in
theorem run_bad (g : GT) (x : ET) (n many : Int) (he : runErr g x many ≠ 0) (gv xv : Value) (w : World) (hT : TakesAt w) (hg : GenAt w gv g) (hxv : ExprAt w xv x) :
    Calls Tryz.prog 9 #[gv, xv, .int .i64 n, .int .i64 many] w fun e w' => e = .returned (.tuple #[.agg #[.int .i64 0, .bool false, .slice none 0 0, .int .i64 0], errV (runErr g x many)]) ∧ Below w.heap.size w w' := by
  have C1 := Lib.hid (fun W (h : Below w.heap.size w W) => check_any g gv W (hg.ext h))
  have C2 := Lib.hid (fun W (h : Below w.heap.size w W) => xcheck_any x xv W (hT.ext h) (hxv.ext h))
  have HE : Hid (runErr g x many = if GT.check g ≠ 0 then GT.check g else if ET.check x ≠ 0 then ET.check x else if many < 0 ∨ 50 < many then 1 else 0) := rfl
  rw [errV_ne he]
  have HEN := Lib.hid he
  obtain ⟨gK, ga, gb, gn, gad, gcap, rfl⟩ := hg.shape
  obtain ⟨xk, xn, xs, xad, xcap, rfl⟩ := hxv.shape
  generalize runErr g x many = E at *
  generalize GT.check g = c1 at *
  generalize ET.check x = c2 at *
  clear hg hxv hT he
  go_enter Tryz.func9, Tryz.ntmps9
  go_wp2_with fail
  refine (C1.out _ (by repeat (first | with_reducible assumption | with_reducible exact Below.refl _ _ | with_reducible apply Below.drew | (with_reducible refine Below.alloc ?_ (by first | omega | (simp only [zA, zS, zD, zN]; omega) | (dsimp only; omega) | (simp only [zA, zS, zD, zN]; dsimp only; omega)) _) | (with_reducible refine Below.setCell ?_ (by first | omega | (simp only [zA, zS, zD, zN]; omega) | (dsimp only; omega) | (simp only [zA, zS, zD, zN]; dsimp only; omega)) _) | (with_reducible apply below_drewN)))).mono ?_
  rintro _ w1 ⟨rfl, hb1⟩
  have hB1 : Below w.heap.size w w1 := Below.trans (by repeat (first | with_reducible assumption | with_reducible exact Below.refl _ _ | with_reducible apply Below.drew | (with_reducible refine Below.alloc ?_ (by first | omega | (simp only [zA, zS, zD, zN]; omega) | (dsimp only; omega) | (simp only [zA, zS, zD, zN]; dsimp only; omega)) _) | (with_reducible refine Below.setCell ?_ (by first | omega | (simp only [zA, zS, zD, zN]; omega) | (dsimp only; omega) | (simp only [zA, zS, zD, zN]; dsimp only; omega)) _) | (with_reducible apply below_drewN))) (hb1.mono (by first | omega | (simp only [zA, zS, zD, zN]; omega) | (dsimp only; omega) | (simp only [zA, zS, zD, zN]; dsimp only; omega)))
  have x1 := ((Blk.new (w.alloc (.cells #[.int .i64 gK, .int .i64 ga, .int .i64 gb, .slice gad gn gcap] 24)) #[.int .i64 xk, .int .i64 xn, .slice xad xs xcap] 27).alloc (.cells #[.int .i64 0, .bool false, .slice none 0 0, .int .i64 0] 34)).ext hb1
  have x2 := (Blk.new ((w.alloc (.cells #[.int .i64 gK, .int .i64 ga, .int .i64 gb, .slice gad gn gcap] 24)).alloc (.cells #[.int .i64 xk, .int .i64 xn, .slice xad xs xcap] 27)) #[.int .i64 0, .bool false, .slice none 0 0, .int .i64 0] 34).ext hb1
  simp only [World.size_alloc] at x1 x2
  clear hb1 C1
  by_cases h1 : c1 = 0
  case neg =>
    have HX : Hid (E = c1) := HE.out.trans (if_pos h1)
    rw [errV_ne h1]
    clear h1 HE
    have v0 := x2.cell 0
    have v1 := x2.cell 1
    have v2 := x2.cell 2
    have v3 := x2.cell 3
    simp only [List.getElem?_toArray, List.getElem?_cons_succ, List.getElem?_cons_zero] at v0 v1 v2 v3
    have u0 := x2.unfrozen 0
    have u1 := x2.unfrozen 1
    have u2 := x2.unfrozen 2
    have u3 := x2.unfrozen 3
    have e2 := (((x2.set 0 (.int .i64 0)).set 1 (.bool false)).set 2 (.slice none 0 0)).set 3 (.int .i64 0)
    simp only [List.setIfInBounds_toArray, List.set_cons_zero, List.set_cons_succ] at e2
    have hBf : Below w.heap.size w ((((w1.setCell ⟨w.heap.size + 1 + 1, 0, none⟩ (.int .i64 0)).setCell ⟨w.heap.size + 1 + 1, 1, none⟩ (.bool false)).setCell ⟨w.heap.size + 1 + 1, 2, none⟩ (.slice none 0 0)).setCell ⟨w.heap.size + 1 + 1, 3, none⟩ (.int .i64 0)) := by
      refine Below.setCell (Below.setCell (Below.setCell (Below.setCell hB1 ?_ _) ?_ _) ?_ _) ?_ _ <;> dsimp only <;> omega
    go_wp2_with fail
    clear v0 v1 v2 v3 u0 u1 u2 u3
    generalize ((((w1.setCell ⟨w.heap.size + 1 + 1, 0, none⟩ (.int .i64 0)).setCell ⟨w.heap.size + 1 + 1, 1, none⟩ (.bool false)).setCell ⟨w.heap.size + 1 + 1, 2, none⟩ (.slice none 0 0)).setCell ⟨w.heap.size + 1 + 1, 3, none⟩ (.int .i64 0)) = Wf at *
    have v0 := e2.cell 0
    have v1 := e2.cell 1
    have v2 := e2.cell 2
    have v3 := e2.cell 3
    simp only [List.getElem?_toArray, List.getElem?_cons_succ, List.getElem?_cons_zero] at v0 v1 v2 v3
    refine bodyPost_ret (v := .tuple #[.agg #[.int .i64 0, .bool false, .slice none 0 0, .int .i64 0], .iface 29 (.int .i64 c1)]) (by simp [results, Tryz.results9, go_sem, v0, v1, v2, v3]) rfl ?_
    rw [HX.out]
    exact ⟨rfl, hBf⟩
  subst h1
  rw [errV_zero]
  have f0 := x1.cell 0
  have f1 := x1.cell 1
  have f2 := x1.cell 2
  simp only [List.getElem?_toArray, List.getElem?_cons_succ, List.getElem?_cons_zero] at f0 f1 f2
  go_wp2_with fail
  refine (C2.out _ hB1).mono ?_
  rintro _ w2 ⟨rfl, hb2⟩
  have hB2 := hB1.trans (hb2.mono hB1.size)
  have x2 := x2.ext hb2
  clear f0 f1 f2 hb2 C2
  by_cases h2 : c2 = 0
  case neg =>
    have HX : Hid (E = c2) := HE.out.trans (by simp [h2])
    rw [errV_ne h2]
    clear h2 HE
    have v0 := x2.cell 0
    have v1 := x2.cell 1
    have v2 := x2.cell 2
    have v3 := x2.cell 3
    simp only [List.getElem?_toArray, List.getElem?_cons_succ, List.getElem?_cons_zero] at v0 v1 v2 v3
    have u0 := x2.unfrozen 0
    have u1 := x2.unfrozen 1
    have u2 := x2.unfrozen 2
    have u3 := x2.unfrozen 3
    have e2 := (((x2.set 0 (.int .i64 0)).set 1 (.bool false)).set 2 (.slice none 0 0)).set 3 (.int .i64 0)
    simp only [List.setIfInBounds_toArray, List.set_cons_zero, List.set_cons_succ] at e2
    have hBf : Below w.heap.size w ((((w2.setCell ⟨w.heap.size + 1 + 1, 0, none⟩ (.int .i64 0)).setCell ⟨w.heap.size + 1 + 1, 1, none⟩ (.bool false)).setCell ⟨w.heap.size + 1 + 1, 2, none⟩ (.slice none 0 0)).setCell ⟨w.heap.size + 1 + 1, 3, none⟩ (.int .i64 0)) := by
      refine Below.setCell (Below.setCell (Below.setCell (Below.setCell hB2 ?_ _) ?_ _) ?_ _) ?_ _ <;> dsimp only <;> omega
    go_wp2_with fail
    clear v0 v1 v2 v3 u0 u1 u2 u3
    generalize ((((w2.setCell ⟨w.heap.size + 1 + 1, 0, none⟩ (.int .i64 0)).setCell ⟨w.heap.size + 1 + 1, 1, none⟩ (.bool false)).setCell ⟨w.heap.size + 1 + 1, 2, none⟩ (.slice none 0 0)).setCell ⟨w.heap.size + 1 + 1, 3, none⟩ (.int .i64 0)) = Wf at *
    have v0 := e2.cell 0
    have v1 := e2.cell 1
    have v2 := e2.cell 2
    have v3 := e2.cell 3
    simp only [List.getElem?_toArray, List.getElem?_cons_succ, List.getElem?_cons_zero] at v0 v1 v2 v3
    refine bodyPost_ret (v := .tuple #[.agg #[.int .i64 0, .bool false, .slice none 0 0, .int .i64 0], .iface 29 (.int .i64 c2)]) (by simp [results, Tryz.results9, go_sem, v0, v1, v2, v3]) rfl ?_
    rw [HX.out]
    exact ⟨rfl, hBf⟩
  subst h2
  rw [errV_zero]
  have hm : many < 0 ∨ 50 < many := by
    by_cases h : many < 0 ∨ 50 < many
    · exact h
    · exact absurd (HE.out.trans (by simp [h])) HEN.out
  have HX : Hid (E = 1) := HE.out.trans (by simp [hm])
  clear HE
  rcases hm with hm | hm
  ·
    have v0 := x2.cell 0
    have v1 := x2.cell 1
    have v2 := x2.cell 2
    have v3 := x2.cell 3
    simp only [List.getElem?_toArray, List.getElem?_cons_succ, List.getElem?_cons_zero] at v0 v1 v2 v3
    have u0 := x2.unfrozen 0
    have u1 := x2.unfrozen 1
    have u2 := x2.unfrozen 2
    have u3 := x2.unfrozen 3
    have e2 := (((x2.set 0 (.int .i64 0)).set 1 (.bool false)).set 2 (.slice none 0 0)).set 3 (.int .i64 0)
    simp only [List.setIfInBounds_toArray, List.set_cons_zero, List.set_cons_succ] at e2
    have hBf : Below w.heap.size w ((((w2.setCell ⟨w.heap.size + 1 + 1, 0, none⟩ (.int .i64 0)).setCell ⟨w.heap.size + 1 + 1, 1, none⟩ (.bool false)).setCell ⟨w.heap.size + 1 + 1, 2, none⟩ (.slice none 0 0)).setCell ⟨w.heap.size + 1 + 1, 3, none⟩ (.int .i64 0)) := by
      refine Below.setCell (Below.setCell (Below.setCell (Below.setCell hB2 ?_ _) ?_ _) ?_ _) ?_ _ <;> dsimp only <;> omega
    go_wp2_with fail
    clear v0 v1 v2 v3 u0 u1 u2 u3
    generalize ((((w2.setCell ⟨w.heap.size + 1 + 1, 0, none⟩ (.int .i64 0)).setCell ⟨w.heap.size + 1 + 1, 1, none⟩ (.bool false)).setCell ⟨w.heap.size + 1 + 1, 2, none⟩ (.slice none 0 0)).setCell ⟨w.heap.size + 1 + 1, 3, none⟩ (.int .i64 0)) = Wf at *
    have v0 := e2.cell 0
    have v1 := e2.cell 1
    have v2 := e2.cell 2
    have v3 := e2.cell 3
    simp only [List.getElem?_toArray, List.getElem?_cons_succ, List.getElem?_cons_zero] at v0 v1 v2 v3
    refine bodyPost_ret (v := .tuple #[.agg #[.int .i64 0, .bool false, .slice none 0 0, .int .i64 0], .iface 29 (.int .i64 1)]) (by simp [results, Tryz.results9, go_sem, v0, v1, v2, v3]) rfl ?_
    rw [HX.out]
    exact ⟨rfl, hBf⟩
  · have hm2 : ¬ many < 0 := by omega
    have v0 := x2.cell 0
    have v1 := x2.cell 1
    have v2 := x2.cell 2
    have v3 := x2.cell 3
    simp only [List.getElem?_toArray, List.getElem?_cons_succ, List.getElem?_cons_zero] at v0 v1 v2 v3
    have u0 := x2.unfrozen 0
    have u1 := x2.unfrozen 1
    have u2 := x2.unfrozen 2
    have u3 := x2.unfrozen 3
    have e2 := (((x2.set 0 (.int .i64 0)).set 1 (.bool false)).set 2 (.slice none 0 0)).set 3 (.int .i64 0)
    simp only [List.setIfInBounds_toArray, List.set_cons_zero, List.set_cons_succ] at e2
    have hBf : Below w.heap.size w ((((w2.setCell ⟨w.heap.size + 1 + 1, 0, none⟩ (.int .i64 0)).setCell ⟨w.heap.size + 1 + 1, 1, none⟩ (.bool false)).setCell ⟨w.heap.size + 1 + 1, 2, none⟩ (.slice none 0 0)).setCell ⟨w.heap.size + 1 + 1, 3, none⟩ (.int .i64 0)) := by
      refine Below.setCell (Below.setCell (Below.setCell (Below.setCell hB2 ?_ _) ?_ _) ?_ _) ?_ _ <;> dsimp only <;> omega
    go_wp2_with fail
    clear v0 v1 v2 v3 u0 u1 u2 u3
    generalize ((((w2.setCell ⟨w.heap.size + 1 + 1, 0, none⟩ (.int .i64 0)).setCell ⟨w.heap.size + 1 + 1, 1, none⟩ (.bool false)).setCell ⟨w.heap.size + 1 + 1, 2, none⟩ (.slice none 0 0)).setCell ⟨w.heap.size + 1 + 1, 3, none⟩ (.int .i64 0)) = Wf at *
    have v0 := e2.cell 0
    have v1 := e2.cell 1
    have v2 := e2.cell 2
    have v3 := e2.cell 3
    simp only [List.getElem?_toArray, List.getElem?_cons_succ, List.getElem?_cons_zero] at v0 v1 v2 v3
    refine bodyPost_ret (v := .tuple #[.agg #[.int .i64 0, .bool false, .slice none 0 0, .int .i64 0], .iface 29 (.int .i64 1)]) (by simp [results, Tryz.results9, go_sem, v0, v1, v2, v3]) rfl ?_
    rw [HX.out]
    exact ⟨rfl, hBf⟩
end Go.Proofs.YtibmnifenfingaaGreatDoor
namespace Go.Proofs.YtibmnifenfingaaGreatDoor
set_option maxRecDepth 100000
open Go.RowKit
set_option linter.unusedSimpArgs false
set_option linter.unusedVariables false
theorem RepAt.form {w : World} {v : Value} {r : Rep} (h : RepAt w v r) : ∃ ad cap, v = .agg #[.int .i64 (r.runs : Nat), .bool r.failed, .slice ad r.tape.length cap, .int .i64 (r.steps : Nat)] ∧ IntsAt w (.slice ad r.tape.length cap) r.tape := by
  obtain ⟨tv, rfl, ht⟩ := h
  obtain ⟨ad, cap, rfl, _⟩ := ht.form
  exact ⟨ad, cap, rfl, ht⟩
/-- A bool is told; true, where both are the same. -/
def SameR (r q : Rep) (w : World) (e : Ending) (w' : World) : Prop := ∃ b, e = .returned (.bool b) ∧ (r = q → b = true) ∧ Below w.heap.size w w'
set_option maxHeartbeats 2000000 in
theorem report_any (r q : Rep) (hs1 : r.steps ≤ 1401079680) (hs2 : q.steps ≤ 1401079680) (rv qv : Value) (w : World) (hr : RepAt w rv r) (hq : RepAt w qv q) :
    Calls Tryz.prog 11 #[rv, qv] w (SameR r q w) := by
  obtain ⟨t1, rfl, h1⟩ := hr
  obtain ⟨t2, rfl, h2⟩ := hq
  have C1 := Lib.hid (fun W (hb : Below w.heap.size w W) => ints_any t1 t2 r.tape q.tape W (h1.ext hb) (h2.ext hb))
  obtain ⟨ad1, c1, rfl, _⟩ := h1.form
  obtain ⟨ad2, c2, rfl, _⟩ := h2.form
  obtain ⟨rr, rf, rt, rs⟩ := r
  obtain ⟨qr, qf, qt, qs⟩ := q
  dsimp only at C1 hs1 hs2 ⊢
  clear h1 h2
  have HB : Hid (decide (rt = qt) = true ↔ rt = qt) := by show _ ↔ _; simp
  generalize decide (rt = qt) = b at *
  go_enter Tryz.func11, Tryz.ntmps11
  go_wp2_with fail
  refine (C1.out _ (by repeat (first | with_reducible assumption | with_reducible exact Below.refl _ _ | with_reducible apply Below.drew | (with_reducible refine Below.alloc ?_ (by first | omega | (simp only [zA, zS, zD, zN]; omega) | (dsimp only; omega) | (simp only [zA, zS, zD, zN]; dsimp only; omega)) _) | (with_reducible refine Below.setCell ?_ (by first | omega | (simp only [zA, zS, zD, zN]; omega) | (dsimp only; omega) | (simp only [zA, zS, zD, zN]; dsimp only; omega)) _) | (with_reducible apply below_drewN)))).mono ?_
  rintro _ w1 ⟨rfl, n1, rfl⟩
  have hB1 : Below w.heap.size w (((w.alloc (.cells #[.int .i64 (rr : Nat), .bool rf, .slice ad1 rt.length c1, .int .i64 (rs : Nat)] 34)).alloc (.cells #[.int .i64 (qr : Nat), .bool qf, .slice ad2 qt.length c2, .int .i64 (qs : Nat)] 34)).drewN n1) := by
    have h : Below w.heap.size w ((w.alloc (.cells #[.int .i64 (rr : Nat), .bool rf, .slice ad1 rt.length c1, .int .i64 (rs : Nat)] 34)).alloc (.cells #[.int .i64 (qr : Nat), .bool qf, .slice ad2 qt.length c2, .int .i64 (qs : Nat)] 34)) := by repeat (first | with_reducible assumption | with_reducible exact Below.refl _ _ | with_reducible apply Below.drew | (with_reducible refine Below.alloc ?_ (by first | omega | (simp only [zA, zS, zD, zN]; omega) | (dsimp only; omega) | (simp only [zA, zS, zD, zN]; dsimp only; omega)) _) | (with_reducible refine Below.setCell ?_ (by first | omega | (simp only [zA, zS, zD, zN]; omega) | (dsimp only; omega) | (simp only [zA, zS, zD, zN]; dsimp only; omega)) _) | (with_reducible apply below_drewN))
    exact ⟨h.os, h.tape, h.output, h.size, h.block⟩
  cases b with
  | false =>
    have HN : Hid (¬ rt = qt) := fun h => by have := HB.out.2 h; cases this
    go_wp2_with fail
    go_ret
    exact ⟨_, rfl, fun h => absurd (by cases h; rfl) HN.out, hB1⟩
  | true =>
    by_cases hr : rr = qr
    · subst hr
      have q1 : ((rr : Int) == (rr : Int)) = true := by simp
      cases rf <;> cases qf
      · by_cases hs : rs = qs
        · subst hs
          have q2 : ((rs : Int) == (rs : Int)) = true := by simp
          go_wp2_with fail
          go_ret
          exact ⟨_, rfl, fun _ => by simp, hB1⟩
        · have q2 : ((rs : Int) == (qs : Int)) = false := by simp; omega
          have HN := Lib.hid hs
          clear hs
          go_wp2_with fail
          go_ret
          exact ⟨_, rfl, fun h => absurd (by cases h; rfl) HN.out, hB1⟩
      · go_wp2_with fail
        go_ret
        exact ⟨_, rfl, (fun h => by cases h), hB1⟩
      · go_wp2_with fail
        go_ret
        exact ⟨_, rfl, (fun h => by cases h), hB1⟩
      · by_cases hs : rs = qs
        · subst hs
          have q2 : ((rs : Int) == (rs : Int)) = true := by simp
          go_wp2_with fail
          go_ret
          exact ⟨_, rfl, fun _ => by simp, hB1⟩
        · have q2 : ((rs : Int) == (qs : Int)) = false := by simp; omega
          have HN := Lib.hid hs
          clear hs
          go_wp2_with fail
          go_ret
          exact ⟨_, rfl, fun h => absurd (by cases h; rfl) HN.out, hB1⟩
    · have q1 : ((rr : Int) == (qr : Int)) = false := by simp; omega
      have HN := Lib.hid hr
      clear hr
      go_wp2_with fail
      go_ret
      exact ⟨_, rfl, fun h => absurd (by cases h; rfl) HN.out, hB1⟩
end Go.Proofs.YtibmnifenfingaaGreatDoor
