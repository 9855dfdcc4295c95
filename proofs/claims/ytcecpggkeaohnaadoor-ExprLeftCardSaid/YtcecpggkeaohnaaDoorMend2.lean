/- The walk through Mend. -/
import Derived.Test.YtcecpggkeaohnaaDoorMend1
namespace Go.Proofs.YtcecpggkeaohnaaDoor
set_option maxRecDepth 100000
open Go.RowKit
set_option linter.unusedSimpArgs false
set_option linter.unusedVariables false
namespace GT
theorem play_total {σ : Type} (st : Int → σ → Except Int (Int × σ)) (ht : ∀ m q, 0 ≤ m → ∃ c q', st m q = .ok (c, q')) (hbd : ∀ m q c q', 0 ≤ m → st m q = .ok (c, q') → 0 ≤ c ∧ c ≤ m) (g : GT) : eachErr g = 0 → ∀ q, ∃ t q', play st g q = .ok (t, q') := by
  induction g using GT.ind with
  | h k a b s ih =>
    intro he q
    have hk := ok_kids he
    have hI : ∀ x ∈ s, ∀ q, ∃ t q', play st x q = .ok (t, q') := fun x hx => ih x hx (hk x hx)
    rcases one_cases (ok_one he) with ⟨rfl, h1, h2, h3⟩ | ⟨rfl, h0, h0', h1, h2, h3⟩ | rfl | ⟨rfl, h1, h2, h3⟩ | ⟨rfl, h1⟩
    · exact ⟨_, _, by simp [play]; exact ⟨rfl, rfl⟩⟩
    · obtain ⟨c, q', h⟩ := ht (b - a) q (by omega)
      exact ⟨_, _, by simp [play, h]; exact ⟨rfl, rfl⟩⟩
    · have hL : ∀ (l : List GT), (∀ x ∈ l, x ∈ s) → ∀ q, ∃ r q', playL st l q = .ok (r, q') := by
        intro l
        induction l with
        | nil => intro _ q; exact ⟨_, _, rfl⟩
        | cons x l ihl =>
          intro hx q
          obtain ⟨t, q1, h1⟩ := hI x (hx x (by simp)) q
          obtain ⟨r, q2, h2⟩ := ihl (fun y hy => hx y (by simp [hy])) q1
          exact ⟨_, _, by simp only [playL, h1, h2]; rfl⟩
      obtain ⟨r, q', h⟩ := hL s (fun x hx => hx) q
      exact ⟨_, _, by simp [play, h]; exact ⟨rfl, rfl⟩⟩
    · obtain ⟨c, q1, h⟩ := ht a q h2
      match s, h1, hI with
      | [y], _, hI =>
        have hT : ∀ n q, ∃ r q', times (fun q => play st y q) n q = .ok (r, q') := by
          intro n
          induction n with
          | zero => intro q; exact ⟨_, _, rfl⟩
          | succ n ihn =>
            intro q
            obtain ⟨t, q1, h1⟩ := hI y (by simp) q
            obtain ⟨r, q2, h2⟩ := ihn q1
            exact ⟨_, _, by simp only [times, h1, h2]; rfl⟩
        obtain ⟨r, q2, h5⟩ := hT c.toNat q1
        exact ⟨_, _, by simp [play, playN, h, h5]; exact ⟨rfl, rfl⟩⟩
    · obtain ⟨c, q1, h⟩ := ht ((s.length : Int) - 1) q (by omega)
      have hc := hbd _ _ _ _ (by omega) h
      have hi : c.toNat < s.length := by omega
      obtain ⟨t, q2, h2⟩ := hI s[c.toNat] (List.getElem_mem hi) q1
      refine ⟨t, q2, ?_⟩
      simp [play, h]
      rw [playI_get st s c.toNat hi, h2]
end GT
/-- The tape that is mended. -/
def mendR (g : GT) (tape : List Int) : List Int := match GT.play (stMend tape) g [] with
  | .ok (_, out) => out
  | .error _ => []
theorem enter_mend1 (args : Array Value) (w : World) : Sem.run Tryd.prog (callFunc 55 args) w = .ok (.enter 55 args) w := by
  rfl
theorem cho_mend (w0 : World) (B p1 p2 : Nat) (tv : Value) (tape : List Int) (h0 : w0.heap.size ≤ B) (ht : IntsAt w0 tv tape) (hp1 : B ≤ p1) (hp2 : B ≤ p2) (hne : p1 ≠ p2) :
    Cho B 55 p1 p2 (stMend tape) (fun out g W => JMend w0 B p1 p2 tv out g W) (fun out => 1099511627776 - out.length) where
  enter := enter_mend1
  bd := fun m q c q' hm h => by
    simp only [stMend, Except.ok.injEq, Prod.mk.injEq] at h
    rw [← h.1]
    exact mendAt_bd tape m q hm
  bdd := fun m q c q' hm h => by
    simp only [stMend, Except.ok.injEq, Prod.mk.injEq] at h
    rw [← h.2]
    simp
    omega
  stay := fun q g w w' h hz hk => h.stay h0 hz hk
  lt := fun q g w h => by
    obtain ⟨ov, h1, h2, h3⟩ := h.own
    refine ⟨hp1, h1.lt, hp2, h.tape.lt, ?_⟩
    rcases h3 with ⟨_, e⟩ | ⟨e, _, _⟩
    · rw [e]; exact ⟨hp1, h1.lt⟩
    · exact World.ownsRow.lt h2 g e
  call := fun m q g w hm0 hm1 hb hJ => by
    refine (mend1_any w0 B p1 p2 tv tape h0 ht hp1 hp2 hne m q g w hm0 hm1 (by omega) hJ).mono ?_
    rintro e w' ⟨rfl, g', h⟩
    exact ⟨rfl, g', h⟩
set_option maxHeartbeats 2000000 in
theorem mend_bad (g : GT) (gv tv : Value) (hc : GT.check g ≠ 0) (w : World) (hg : GenAt w gv g) (htv : ∃ a n c, tv = .slice a n c) :
    Calls Tryd.prog 29 #[gv, tv] w fun e w' => e = .returned (.tuple #[.slice none 0 0, errV (GT.check g)]) ∧ Below w.heap.size w w' := by
  obtain ⟨k, a, b, s, ad, cap, hmk, rfl, hk, ha, hb, hl, hm, hs⟩ := hg.form
  obtain ⟨tad, tn, tcap, rfl⟩ := htv
  have C1 := Lib.hid (fun W (h : Below w.heap.size w W) => check_any g (.agg #[.int .i64 k, .int .i64 a, .int .i64 b, .slice ad s.length cap]) W (hg.ext h))
  rw [errV_ne hc] at *
  clear hc hg hmk hk ha hb hl hm hs
  go_enter Tryd.func29, Tryd.ntmps29
  go_wp2_with fail
  refine (C1.out _ (by repeat (first | with_reducible assumption | with_reducible exact Below.refl _ _ | with_reducible apply Below.drew | (with_reducible refine Below.alloc ?_ (by first | omega | (simp only [World.size_alloc, size_setCell, size_drew, size_drewN]; omega) | (dsimp only; omega) | (simp only [World.size_alloc, size_setCell, size_drew, size_drewN]; dsimp only; omega)) _) | (with_reducible refine Below.setCell ?_ (by first | omega | (simp only [World.size_alloc, size_setCell, size_drew, size_drewN]; omega) | (dsimp only; omega) | (simp only [World.size_alloc, size_setCell, size_drew, size_drewN]; dsimp only; omega)) _) | (with_reducible apply below_drewN)))).mono ?_
  rintro e w1 ⟨rfl, hb1⟩
  have hB1 : Below w.heap.size w w1 := Below.trans (by repeat (first | with_reducible assumption | with_reducible exact Below.refl _ _ | with_reducible apply Below.drew | (with_reducible refine Below.alloc ?_ (by first | omega | (simp only [World.size_alloc, size_setCell, size_drew, size_drewN]; omega) | (dsimp only; omega) | (simp only [World.size_alloc, size_setCell, size_drew, size_drewN]; dsimp only; omega)) _) | (with_reducible refine Below.setCell ?_ (by first | omega | (simp only [World.size_alloc, size_setCell, size_drew, size_drewN]; omega) | (dsimp only; omega) | (simp only [World.size_alloc, size_setCell, size_drew, size_drewN]; dsimp only; omega)) _) | (with_reducible apply below_drewN))) (hb1.mono (by first | omega | (simp only [World.size_alloc, size_setCell, size_drew, size_drewN]; omega) | (dsimp only; omega) | (simp only [World.size_alloc, size_setCell, size_drew, size_drewN]; dsimp only; omega)))
  obtain ⟨hc1, hf1, hz1⟩ := bcell hb1
  try simp only [World.size_alloc, size_setCell, size_drew, size_drewN] at hz1
  clear hb1
  have y1_0 : w.heap.size < w1.heap.size := by omega
  have y1_1 : w.heap.size + 1 < w1.heap.size := by omega
  go_wp2_with fail
  go_ret2
  exact ⟨rfl, by repeat (first | with_reducible assumption | with_reducible exact Below.refl _ _ | with_reducible apply Below.drew | (with_reducible refine Below.alloc ?_ (by first | omega | (simp only [World.size_alloc, size_setCell, size_drew, size_drewN]; omega) | (dsimp only; omega) | (simp only [World.size_alloc, size_setCell, size_drew, size_drewN]; dsimp only; omega)) _) | (with_reducible refine Below.setCell ?_ (by first | omega | (simp only [World.size_alloc, size_setCell, size_drew, size_drewN]; omega) | (dsimp only; omega) | (simp only [World.size_alloc, size_setCell, size_drew, size_drewN]; dsimp only; omega)) _) | (with_reducible apply below_drewN))⟩
set_option maxHeartbeats 2000000 in
theorem mend_own (g : GT) (tape : List Int) (gv tv : Value) (hc : GT.check g = 0) (w : World) (hg : GenAt w gv g) (ht : IntsAt w tv tape) :
    Calls Tryd.prog 29 #[gv, tv] w fun e w' => (∃ v, e = .returned (.tuple #[v, .nilIface]) ∧ OwnInts w' w.heap.size v (mendR g tape) ∧ ∀ n ∈ mendR g tape, In64 n) ∧ Below w.heap.size w w' := by
  obtain ⟨k, a, b, s, ad, cap, hmk, rfl, hk, ha, hb, hl, hm, hs⟩ := hg.form
  obtain ⟨tad, tcap, rfl, htl, htm, hti, _⟩ := ht.form
  have C1 := Lib.hid (fun W (h : Below w.heap.size w W) => check_any g (.agg #[.int .i64 k, .int .i64 a, .int .i64 b, .slice ad s.length cap]) W (hg.ext h))
  rw [hc, errV_zero] at C1
  have hE := GT.check_ok hc
  have hP := GT.check_parts hc
  have hCo := GT.cost_ok hc
  obtain ⟨t, out, hplay⟩ := GT.play_total (stMend tape) (fun m q _ => ⟨_, _, rfl⟩) (fun m q c q' hm h => by
    simp only [stMend, Except.ok.injEq, Prod.mk.injEq] at h
    rw [← h.1]
    exact mendAt_bd tape m q hm) g hE []
  have hR : mendR g tape = out := by simp [mendR, hplay]
  rw [hR]
  have HPL := Lib.hid hplay
  have C2 := Lib.hid (fun p1 W (hp1 : w.heap.size + 1 < p1) (hJ : JMend w w.heap.size p1 (w.heap.size + 1) (.slice tad tape.length tcap) [] p1 W) (hW : Below w.heap.size w W) =>
    made_any (cho_mend w w.heap.size p1 (w.heap.size + 1) (.slice tad tape.length tcap) tape (Nat.le_refl _) ht (by omega) (by omega) (by omega)) w (Nat.le_refl _) g 0 [] p1 W _ hE hP (by simp; omega) hJ hW hg)
  rw [hplay] at C2
  clear hR hplay hc hk ha hb hl hm hs hmk hg ht hE hP
  go_enter Tryd.func29, Tryd.ntmps29
  go_wp2_with fail
  refine (C1.out _ (by repeat (first | with_reducible assumption | with_reducible exact Below.refl _ _ | with_reducible apply Below.drew | (with_reducible refine Below.alloc ?_ (by first | omega | (simp only [World.size_alloc, size_setCell, size_drew, size_drewN]; omega) | (dsimp only; omega) | (simp only [World.size_alloc, size_setCell, size_drew, size_drewN]; dsimp only; omega)) _) | (with_reducible refine Below.setCell ?_ (by first | omega | (simp only [World.size_alloc, size_setCell, size_drew, size_drewN]; omega) | (dsimp only; omega) | (simp only [World.size_alloc, size_setCell, size_drew, size_drewN]; dsimp only; omega)) _) | (with_reducible apply below_drewN)))).mono ?_
  rintro e w1 ⟨rfl, hb1⟩
  have hB1 : Below w.heap.size w w1 := Below.trans (by repeat (first | with_reducible assumption | with_reducible exact Below.refl _ _ | with_reducible apply Below.drew | (with_reducible refine Below.alloc ?_ (by first | omega | (simp only [World.size_alloc, size_setCell, size_drew, size_drewN]; omega) | (dsimp only; omega) | (simp only [World.size_alloc, size_setCell, size_drew, size_drewN]; dsimp only; omega)) _) | (with_reducible refine Below.setCell ?_ (by first | omega | (simp only [World.size_alloc, size_setCell, size_drew, size_drewN]; omega) | (dsimp only; omega) | (simp only [World.size_alloc, size_setCell, size_drew, size_drewN]; dsimp only; omega)) _) | (with_reducible apply below_drewN))) (hb1.mono (by first | omega | (simp only [World.size_alloc, size_setCell, size_drew, size_drewN]; omega) | (dsimp only; omega) | (simp only [World.size_alloc, size_setCell, size_drew, size_drewN]; dsimp only; omega)))
  have x2 := ((Blk.new (w.alloc (.cells #[.int .i64 k, .int .i64 a, .int .i64 b, .slice ad s.length cap] 41)) #[.slice tad tape.length tcap] 43)).ext hb1
  obtain ⟨hc1, hf1, hz1⟩ := bcell hb1
  simp only [World.size_alloc] at x2 hz1
  clear hb1
  have y1_0 : w.heap.size < w1.heap.size := by omega
  go_wp2_with fail
  have hJ0 : JMend w w.heap.size w1.heap.size (w.heap.size + 1) (.slice tad tape.length tcap) [] w1.heap.size (w1.alloc (.cells #[.slice none 0 0] 43)) :=
    ⟨fun b hb => (Below.heap_alloc w1 _ b (by omega)).trans (hB1.block b hb), by simp; omega, ⟨_, Blk.new _ _ _, OwnInts.nil _ _, .inl ⟨rfl, rfl⟩⟩, x2.alloc _, by simp⟩
  refine (C2.out w1.heap.size _ (by omega) hJ0 (by repeat (first | with_reducible assumption | with_reducible exact Below.refl _ _ | with_reducible apply Below.drew | (with_reducible refine Below.alloc ?_ (by first | omega | (simp only [World.size_alloc, size_setCell, size_drew, size_drewN]; omega) | (dsimp only; omega) | (simp only [World.size_alloc, size_setCell, size_drew, size_drewN]; dsimp only; omega)) _) | (with_reducible refine Below.setCell ?_ (by first | omega | (simp only [World.size_alloc, size_setCell, size_drew, size_drewN]; omega) | (dsimp only; omega) | (simp only [World.size_alloc, size_setCell, size_drew, size_drewN]; dsimp only; omega)) _) | (with_reducible apply below_drewN)))).mono ?_
  rintro e w3 ⟨u, rfl, g', hJ3, ho, _⟩
  have hB3 : Below w.heap.size w w3 := (Below.alloc hB1 (by omega) _).trans (ho.below (by omega) (by omega) (by omega) (by simp; omega))
  obtain ⟨ov, h1, h2, h3⟩ := hJ3.own
  have h4 := h2.at hJ3.in64
  have c3 := h1.cell 0
  simp only [List.getElem?_toArray, List.getElem?_cons_succ, List.getElem?_cons_zero] at c3
  obtain ⟨oad, ocap, rfl, _⟩ := h4.form
  have H4 := Lib.hid (And.intro h2 hJ3.in64)
  clear h3 h2 h4 h1
  go_wp2_with fail
  go_ret2
  exact ⟨⟨_, rfl, H4.out⟩, hB3⟩
theorem mend_any (g : GT) (tape : List Int) (gv tv : Value) (hc : GT.check g = 0) (w : World) (hg : GenAt w gv g) (ht : IntsAt w tv tape) :
    Calls Tryd.prog 29 #[gv, tv] w fun e w' => (∃ v, e = .returned (.tuple #[v, .nilIface]) ∧ IntsAt w' v (mendR g tape)) ∧ Below w.heap.size w w' := by
  refine (mend_own g tape gv tv hc w hg ht).mono ?_
  rintro e w' ⟨⟨v, rfl, h1, h2⟩, hb⟩
  exact ⟨⟨_, rfl, h1.at h2⟩, hb⟩
end Go.Proofs.YtcecpggkeaohnaaDoor
