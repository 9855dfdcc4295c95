/- The walks through what an expression tells: the numbers of a value. -/
import Derived.Test.YtcecpggkeaohnaaDoorEX1
import Derived.Test.YtcecpggkeaohnaaDoorMadeE
namespace Go.Proofs.YtcecpggkeaohnaaDoor
set_option maxRecDepth 100000
open Go.RowKit
set_option linter.unusedSimpArgs false
set_option linter.unusedVariables false
/-- A closure that is called with each number. -/
structure Vis {σ : Type} (B K p1 p2 : Nat) (cs : Array Value) (st : σ → Int → σ) (J : σ → World → Prop) : Prop where
  enter : ∀ args w, Sem.run Tryd.prog (callFunc K args) w = .ok (.enter K args) w
  lo : B ≤ p1 ∧ B ≤ p2
  lt : ∀ q w, J q w → p1 < w.heap.size ∧ p2 < w.heap.size
  stay : ∀ q w w', J q w → Below w.heap.size w w' → J q w'
  call : ∀ n q w, In64 n → J q w → Calls Tryd.prog K (#[.int .i64 n] ++ cs) w fun e w' => e = .returned (.tuple #[]) ∧ J (st q n) w' ∧ Own p1 p2 p1 p1 w w'
section
variable {σ : Type} {B K p1 p2 : Nat} {st : σ → Int → σ} {J : σ → World → Prop}
theorem Own.of_below {w w' : World} (h : Below w.heap.size w w') : Own p1 p2 p1 p1 w w' := ⟨h.os, h.tape, h.output, h.size, fun b hb _ _ _ => h.block b hb, .inl rfl⟩
theorem Own.up {w0 w w' : World} (h : Own p1 p2 p1 p1 w w') (hb : Below w0.heap.size w0 w) (h1 : w0.heap.size ≤ p1) (h2 : w0.heap.size ≤ p2) : Below w0.heap.size w0 w' :=
  hb.trans (h.below h1 h2 h1 hb.size)
theorem Blk.own {w w' : World} {b : Nat} {cs : Array Value} {t : TypeId} (h : Blk w b cs t) (ho : Own p1 p2 p1 p1 w w') (h1 : b ≠ p1) (h2 : b ≠ p2) : Blk w' b cs t := (ho.blk b h.lt h1 h2 h1).trans h
set_option maxHeartbeats 4000000 in
theorem numbers_any {cs : Array Value} (V : Vis B K p1 p2 cs st J) (w0 : World) (h0 : w0.heap.size ≤ B) (t : VT) : ∀ (v : Value) (q : σ) (w : World), ValAt w0 v t → Below w0.heap.size w0 w → J q w →
    Calls Tryd.prog 63 #[v, .func (.func K) #[] cs] w fun e w' => e = .returned (.tuple #[]) ∧ J (t.nums.foldl st q) w' ∧ Own p1 p2 p1 p1 w w' := by
  induction t using VT.ind with
  | h l n s ih =>
    intro v q w hv hb hJ
    obtain ⟨l', n', s', ad, cap, hmk, rfl, hn, hl, hm, hs⟩ := hv.form
    obtain ⟨rfl, rfl, rfl⟩ := VT.mk.inj hmk
    have hk := V.enter
    have HV := Lib.hid V
    have IH := Lib.hid ih
    have hlt := V.lt q w hJ
    have hlo := V.lo
    clear hv hmk ih V
    have hz0 := hb.size
    cases l with
    | true =>
      have HF : Hid (VT.nums (.mk true n s) = VT.numsL (s.drop 0)) := rfl
      rw [HF.out]
      go_enter Tryd.func63, Tryd.ntmps63
      go_wp2_with fail
      generalize hWW : w.alloc (.cells #[.bool true, .int .i64 n, .slice ad s.length cap] 27) = W0
      have hB0 : Below w.heap.size w W0 := by rw [← hWW]; repeat (first | with_reducible assumption | with_reducible exact Below.refl _ _ | with_reducible apply Below.drew | (with_reducible refine Below.alloc ?_ (by first | omega | (simp only [World.size_alloc, size_setCell, size_drew, size_drewN]; omega) | (dsimp only; omega) | (simp only [World.size_alloc, size_setCell, size_drew, size_drewN]; dsimp only; omega)) _) | (with_reducible refine Below.setCell ?_ (by first | omega | (simp only [World.size_alloc, size_setCell, size_drew, size_drewN]; omega) | (dsimp only; omega) | (simp only [World.size_alloc, size_setCell, size_drew, size_drewN]; dsimp only; omega)) _) | (with_reducible apply below_drewN))
      have hO0 : Own p1 p2 p1 p1 w W0 := Own.of_below hB0
      have hJ0 := HV.out.stay q w W0 hJ hB0
      clear hWW hJ HF
      go_loopw [16] (fun i wr => ∃ (j : Nat) (qr : σ), j ≤ s.length ∧ i = .int .i64 j ∧ J qr wr ∧ Own p1 p2 p1 p1 w wr ∧ Hid ((VT.numsL (s.drop 0)).foldl st q = (VT.numsL (s.drop j)).foldl st qr)) (fun i _ => s.length - (intOf i).toNat)
      case atStart => exact ⟨0, q, by omega, rfl, hJ0, hO0, rfl⟩
      case round =>
        obtain ⟨j, qr, hj, rfl, hJr, hOr, HE⟩ := hrel
        have hzr := hOr.size
        by_cases hlt : j < s.length
        · have p0 : (0 : Int) ≤ (j : Int) := by omega
          have p1' : (j : Int) < (s.length : Int) := by omega
          have hbr := hOr.up hb (by omega) (by omega)
          obtain ⟨bl, off, rfl, hlt1, hc⟩ := hs.at' (by omega)
          obtain ⟨l2, n2, ad2, t2, cap2, c0, c1, c2, hg2⟩ := hc j hlt
          have e0 := (hbr.cell (p := ⟨bl, _, none⟩) hlt1).trans c0
          have e1 := (hbr.cell (p := ⟨bl, _, none⟩) hlt1).trans c1
          have e2 := (hbr.cell (p := ⟨bl, _, none⟩) hlt1).trans c2
          clear hc c0 c1 c2
          have CK := Lib.hid (fun q W hW hq => IH.out s[j] (List.getElem_mem hlt) (.agg #[.bool l2, .int .i64 n2, .slice ad2 t2 cap2]) q W hg2 hW hq)
          have HST := Lib.hid (VT.numsL_step s j hlt)
          generalize VT.nums s[j] = ks at *
          go_wp2_with fail
          generalize hWW : wr.alloc (.cells #[.bool l2, .int .i64 n2, .slice ad2 t2 cap2] 27) = W5
          have hB5 : Below wr.heap.size wr W5 := by rw [← hWW]; repeat (first | with_reducible assumption | with_reducible exact Below.refl _ _ | with_reducible apply Below.drew | (with_reducible refine Below.alloc ?_ (by first | omega | (simp only [World.size_alloc, size_setCell, size_drew, size_drewN]; omega) | (dsimp only; omega) | (simp only [World.size_alloc, size_setCell, size_drew, size_drewN]; dsimp only; omega)) _) | (with_reducible refine Below.setCell ?_ (by first | omega | (simp only [World.size_alloc, size_setCell, size_drew, size_drewN]; omega) | (dsimp only; omega) | (simp only [World.size_alloc, size_setCell, size_drew, size_drewN]; dsimp only; omega)) _) | (with_reducible apply below_drewN))
          have hO5 : Own p1 p2 p1 p1 wr W5 := Own.of_below hB5
          refine (CK.out qr W5 ((hOr.trans hO5).up hb (by omega) (by omega)) (HV.out.stay _ _ _ hJr hB5)).mono ?_
          rintro e w3 ⟨rfl, hJ3, hO3⟩
          clear hWW
          go_wp2_with fail
          exact ⟨⟨j + 1, ks.foldl st qr, by omega, by go_num, hJ3, (hOr.trans hO5).trans hO3, by show _ = _; rw [HE.out, HST.out, List.foldl_append]⟩, by simp [intOf]; omega⟩
        · have HF := HE.out
          rw [List.drop_eq_nil_of_le (by omega : s.length ≤ j)] at HF
          have HX : Hid ((VT.numsL (s.drop 0)).foldl st q = qr) := HF
          have p1' : ¬ (j : Int) < (s.length : Int) := by omega
          clear HF
          go_wp2_with fail
          go_end0
          exact ⟨rfl, by first | (rw [HX.out]; exact hJr) | (show J ((VT.numsL (s.drop 0)).foldl st q) _; rw [HX.out]; exact hJr), hOr⟩
    | false =>
      have HF : Hid (VT.nums (.mk false n s) = n :: VT.numsL (s.drop 0)) := rfl
      obtain ⟨q1, hq1⟩ : ∃ q1, q1 = st q n := ⟨_, rfl⟩
      rw [HF.out, List.foldl_cons, ← hq1]
      have HQ := Lib.hid hq1
      clear hq1
      go_enter Tryd.func63, Tryd.ntmps63
      go_wp2_with fail
      generalize hWW : w.alloc (.cells #[.bool false, .int .i64 n, .slice ad s.length cap] 27) = W1
      have hB1 : Below w.heap.size w W1 := by rw [← hWW]; repeat (first | with_reducible assumption | with_reducible exact Below.refl _ _ | with_reducible apply Below.drew | (with_reducible refine Below.alloc ?_ (by first | omega | (simp only [World.size_alloc, size_setCell, size_drew, size_drewN]; omega) | (dsimp only; omega) | (simp only [World.size_alloc, size_setCell, size_drew, size_drewN]; dsimp only; omega)) _) | (with_reducible refine Below.setCell ?_ (by first | omega | (simp only [World.size_alloc, size_setCell, size_drew, size_drewN]; omega) | (dsimp only; omega) | (simp only [World.size_alloc, size_setCell, size_drew, size_drewN]; dsimp only; omega)) _) | (with_reducible apply below_drewN))
      have hk1 : Blk W1 w.heap.size #[.bool false, .int .i64 n, .slice ad s.length cap] 27 := by rw [← hWW]; exact Blk.new _ _ _
      have hO1 : Own p1 p2 p1 p1 w W1 := Own.of_below hB1
      have hJ1 := HV.out.stay q w W1 hJ hB1
      clear hWW hJ HF
      refine (HV.out.call n q W1 hn hJ1).mono ?_
      rintro e W0 ⟨rfl, hJ0, hO2⟩
      rw [← HQ.out] at hJ0
      have hO0 := hO1.trans hO2
      have hk0 := hk1.own hO2 (by omega) (by omega)
      have c2 := hk0.cell 2
      simp only [List.getElem?_toArray, List.getElem?_cons_succ, List.getElem?_cons_zero] at c2
      go_wp2_with fail
      go_loopw [16] (fun i wr => ∃ (j : Nat) (qr : σ), j ≤ s.length ∧ i = .int .i64 j ∧ J qr wr ∧ Own p1 p2 p1 p1 w wr ∧ Hid ((VT.numsL (s.drop 0)).foldl st q1 = (VT.numsL (s.drop j)).foldl st qr)) (fun i _ => s.length - (intOf i).toNat)
      case atStart => exact ⟨0, q1, by omega, rfl, hJ0, hO0, rfl⟩
      case round =>
        obtain ⟨j, qr, hj, rfl, hJr, hOr, HE⟩ := hrel
        have hzr := hOr.size
        by_cases hlt : j < s.length
        · have p0 : (0 : Int) ≤ (j : Int) := by omega
          have p1' : (j : Int) < (s.length : Int) := by omega
          have hbr := hOr.up hb (by omega) (by omega)
          obtain ⟨bl, off, rfl, hlt1, hc⟩ := hs.at' (by omega)
          obtain ⟨l2, n2, ad2, t2, cap2, c0, c1, c2, hg2⟩ := hc j hlt
          have e0 := (hbr.cell (p := ⟨bl, _, none⟩) hlt1).trans c0
          have e1 := (hbr.cell (p := ⟨bl, _, none⟩) hlt1).trans c1
          have e2 := (hbr.cell (p := ⟨bl, _, none⟩) hlt1).trans c2
          clear hc c0 c1 c2
          have CK := Lib.hid (fun q W hW hq => IH.out s[j] (List.getElem_mem hlt) (.agg #[.bool l2, .int .i64 n2, .slice ad2 t2 cap2]) q W hg2 hW hq)
          have HST := Lib.hid (VT.numsL_step s j hlt)
          generalize VT.nums s[j] = ks at *
          go_wp2_with fail
          generalize hWW : wr.alloc (.cells #[.bool l2, .int .i64 n2, .slice ad2 t2 cap2] 27) = W5
          have hB5 : Below wr.heap.size wr W5 := by rw [← hWW]; repeat (first | with_reducible assumption | with_reducible exact Below.refl _ _ | with_reducible apply Below.drew | (with_reducible refine Below.alloc ?_ (by first | omega | (simp only [World.size_alloc, size_setCell, size_drew, size_drewN]; omega) | (dsimp only; omega) | (simp only [World.size_alloc, size_setCell, size_drew, size_drewN]; dsimp only; omega)) _) | (with_reducible refine Below.setCell ?_ (by first | omega | (simp only [World.size_alloc, size_setCell, size_drew, size_drewN]; omega) | (dsimp only; omega) | (simp only [World.size_alloc, size_setCell, size_drew, size_drewN]; dsimp only; omega)) _) | (with_reducible apply below_drewN))
          have hO5 : Own p1 p2 p1 p1 wr W5 := Own.of_below hB5
          refine (CK.out qr W5 ((hOr.trans hO5).up hb (by omega) (by omega)) (HV.out.stay _ _ _ hJr hB5)).mono ?_
          rintro e w3 ⟨rfl, hJ3, hO3⟩
          clear hWW
          go_wp2_with fail
          exact ⟨⟨j + 1, ks.foldl st qr, by omega, by go_num, hJ3, (hOr.trans hO5).trans hO3, by show _ = _; rw [HE.out, HST.out, List.foldl_append]⟩, by simp [intOf]; omega⟩
        · have HF := HE.out
          rw [List.drop_eq_nil_of_le (by omega : s.length ≤ j)] at HF
          have HX : Hid ((VT.numsL (s.drop 0)).foldl st q1 = qr) := HF
          have p1' : ¬ (j : Int) < (s.length : Int) := by omega
          clear HF
          go_wp2_with fail
          go_end0
          exact ⟨rfl, by first | (rw [HX.out]; exact hJr) | (show J ((VT.numsL (s.drop 0)).foldl st q1) _; rw [HX.out]; exact hJr), hOr⟩
end
end Go.Proofs.YtcecpggkeaohnaaDoor
