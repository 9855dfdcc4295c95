/- The walks through the document's answers on generators: what is wrong with one. -/
import Derived.Test.YtibmnifenfingaaGreatDoorRF2
namespace Go.Proofs.YtibmnifenfingaaGreatDoor
set_option maxRecDepth 100000
open Go.RowKit
set_option linter.unusedSimpArgs false
set_option linter.unusedVariables false
theorem rfar_any (n : Int) (w : World) : Calls Tryz.prog 37 #[.int .i64 n] w fun e w' => e = .returned (.bool (GT.far n)) ∧ w = w' := by
  unfold GT.far
  by_cases h1 : n < -1073741824
  · go_enter Tryz.func37, Tryz.ntmps37
    go_wp2
    go_ret
    exact ⟨by simp [h1], rfl⟩
  · by_cases h2 : 1073741824 < n
    · go_enter Tryz.func37, Tryz.ntmps37
      go_wp2
      go_ret
      exact ⟨by simp [h1, h2], rfl⟩
    · go_enter Tryz.func37, Tryz.ntmps37
      go_wp2
      go_ret
      exact ⟨by simp [h1, h2], rfl⟩
end Go.Proofs.YtibmnifenfingaaGreatDoor

namespace Go.Proofs.YtibmnifenfingaaGreatDoor
set_option maxRecDepth 100000
open Go.RowKit
set_option linter.unusedSimpArgs false
set_option linter.unusedVariables false
set_option maxHeartbeats 1000000 in
theorem rpf_lo (k : Int) (a b : Int) (s : List GT) (sn : Nat) (HN : Hid (sn = s.length)) (cap : Nat) (ad : Option Addr) (ha : In64 a) (hb : In64 b) (h : k < 1) (HR : Hid (GT.eachErr (.mk k a b s) = 3)) (IH : Hid (∀ x ∈ s, ∀ (v : Value) (w : World), GenAt w v x → Calls Tryz.prog 16 #[v] w fun e w' => e = .returned (.int .i64 (GT.eachErr x)) ∧ Below w.heap.size w w')) (w : World) (hs : GensAt w ad s) (hl : sn ≤ 9223372036854775807) :
    Calls Tryz.prog 16 #[.agg #[.int .i64 k, .int .i64 a, .int .i64 b, .slice ad sn cap]] w fun e w' => e = .returned (.int .i64 (GT.eachErr (.mk k a b s))) ∧ Below w.heap.size w w' := by
  go_enter Tryz.func16, Tryz.ntmps16
  go_wp2_with (go_at_call 37; refine (rfar_any _ _).mono ?_; rintro e w' ⟨rfl, rfl⟩)
  go_ret
  exact ⟨by rw [HR.out]; rfl, by repeat (first | with_reducible assumption | with_reducible exact Below.refl _ _ | with_reducible apply Below.drew | (with_reducible refine Below.alloc ?_ (by first | omega | (simp only [zA, zS, zD, zN]; omega) | (dsimp only; omega) | (simp only [zA, zS, zD, zN]; dsimp only; omega)) _) | (with_reducible refine Below.setCell ?_ (by first | omega | (simp only [zA, zS, zD, zN]; omega) | (dsimp only; omega) | (simp only [zA, zS, zD, zN]; dsimp only; omega)) _) | (with_reducible apply below_drewN))⟩
set_option maxHeartbeats 1000000 in
theorem rpf_hi (k : Int) (a b : Int) (s : List GT) (sn : Nat) (HN : Hid (sn = s.length)) (cap : Nat) (ad : Option Addr) (ha : In64 a) (hb : In64 b) (h0 : ¬ k < 1) (h : 5 < k) (HR : Hid (GT.eachErr (.mk k a b s) = 3)) (IH : Hid (∀ x ∈ s, ∀ (v : Value) (w : World), GenAt w v x → Calls Tryz.prog 16 #[v] w fun e w' => e = .returned (.int .i64 (GT.eachErr x)) ∧ Below w.heap.size w w')) (w : World) (hs : GensAt w ad s) (hl : sn ≤ 9223372036854775807) :
    Calls Tryz.prog 16 #[.agg #[.int .i64 k, .int .i64 a, .int .i64 b, .slice ad sn cap]] w fun e w' => e = .returned (.int .i64 (GT.eachErr (.mk k a b s))) ∧ Below w.heap.size w w' := by
  go_enter Tryz.func16, Tryz.ntmps16
  go_wp2_with (go_at_call 37; refine (rfar_any _ _).mono ?_; rintro e w' ⟨rfl, rfl⟩)
  go_ret
  exact ⟨by rw [HR.out]; rfl, by repeat (first | with_reducible assumption | with_reducible exact Below.refl _ _ | with_reducible apply Below.drew | (with_reducible refine Below.alloc ?_ (by first | omega | (simp only [zA, zS, zD, zN]; omega) | (dsimp only; omega) | (simp only [zA, zS, zD, zN]; dsimp only; omega)) _) | (with_reducible refine Below.setCell ?_ (by first | omega | (simp only [zA, zS, zD, zN]; omega) | (dsimp only; omega) | (simp only [zA, zS, zD, zN]; dsimp only; omega)) _) | (with_reducible apply below_drewN))⟩
set_option maxHeartbeats 1000000 in
theorem rpf_1a (a b : Int) (s : List GT) (sn : Nat) (HN : Hid (sn = s.length)) (cap : Nat) (ad : Option Addr) (ha : In64 a) (hb : In64 b) (fa : GT.far a = true) (HR : Hid (GT.eachErr (.mk 1 a b s) = 1)) (IH : Hid (∀ x ∈ s, ∀ (v : Value) (w : World), GenAt w v x → Calls Tryz.prog 16 #[v] w fun e w' => e = .returned (.int .i64 (GT.eachErr x)) ∧ Below w.heap.size w w')) (w : World) (hs : GensAt w ad s) (hl : sn ≤ 9223372036854775807) :
    Calls Tryz.prog 16 #[.agg #[.int .i64 1, .int .i64 a, .int .i64 b, .slice ad sn cap]] w fun e w' => e = .returned (.int .i64 (GT.eachErr (.mk 1 a b s))) ∧ Below w.heap.size w w' := by
  go_enter Tryz.func16, Tryz.ntmps16
  go_wp2_with (go_at_call 37; refine (rfar_any _ _).mono ?_; rintro e w' ⟨rfl, rfl⟩)
  go_ret
  exact ⟨by rw [HR.out]; rfl, by repeat (first | with_reducible assumption | with_reducible exact Below.refl _ _ | with_reducible apply Below.drew | (with_reducible refine Below.alloc ?_ (by first | omega | (simp only [zA, zS, zD, zN]; omega) | (dsimp only; omega) | (simp only [zA, zS, zD, zN]; dsimp only; omega)) _) | (with_reducible refine Below.setCell ?_ (by first | omega | (simp only [zA, zS, zD, zN]; omega) | (dsimp only; omega) | (simp only [zA, zS, zD, zN]; dsimp only; omega)) _) | (with_reducible apply below_drewN))⟩
set_option maxHeartbeats 1000000 in
theorem rpf_1b (a b : Int) (s : List GT) (sn : Nat) (HN : Hid (sn = s.length)) (cap : Nat) (ad : Option Addr) (ha : In64 a) (hb : In64 b) (nfa : GT.far a = false) (h : 0 < sn) (HR : Hid (GT.eachErr (.mk 1 a b s) = 3)) (IH : Hid (∀ x ∈ s, ∀ (v : Value) (w : World), GenAt w v x → Calls Tryz.prog 16 #[v] w fun e w' => e = .returned (.int .i64 (GT.eachErr x)) ∧ Below w.heap.size w w')) (w : World) (hs : GensAt w ad s) (hl : sn ≤ 9223372036854775807) :
    Calls Tryz.prog 16 #[.agg #[.int .i64 1, .int .i64 a, .int .i64 b, .slice ad sn cap]] w fun e w' => e = .returned (.int .i64 (GT.eachErr (.mk 1 a b s))) ∧ Below w.heap.size w w' := by
  have z1 : (0 : Int) < (sn : Int) := by first | omega | (simp; omega)
  clear h
  go_enter Tryz.func16, Tryz.ntmps16
  go_wp2_with (go_at_call 37; refine (rfar_any _ _).mono ?_; rintro e w' ⟨rfl, rfl⟩)
  go_ret
  exact ⟨by rw [HR.out]; rfl, by repeat (first | with_reducible assumption | with_reducible exact Below.refl _ _ | with_reducible apply Below.drew | (with_reducible refine Below.alloc ?_ (by first | omega | (simp only [zA, zS, zD, zN]; omega) | (dsimp only; omega) | (simp only [zA, zS, zD, zN]; dsimp only; omega)) _) | (with_reducible refine Below.setCell ?_ (by first | omega | (simp only [zA, zS, zD, zN]; omega) | (dsimp only; omega) | (simp only [zA, zS, zD, zN]; dsimp only; omega)) _) | (with_reducible apply below_drewN))⟩
set_option maxHeartbeats 1000000 in
theorem rpf_1c (a b : Int) (s : List GT) (sn : Nat) (HN : Hid (sn = s.length)) (cap : Nat) (ad : Option Addr) (ha : In64 a) (hb : In64 b) (nfa : GT.far a = false) (h : sn = 0) (HR : Hid (GT.eachErr (.mk 1 a b s) = GT.eachErrL (s.drop 0))) (IH : Hid (∀ x ∈ s, ∀ (v : Value) (w : World), GenAt w v x → Calls Tryz.prog 16 #[v] w fun e w' => e = .returned (.int .i64 (GT.eachErr x)) ∧ Below w.heap.size w w')) (w : World) (hs : GensAt w ad s) (hl : sn ≤ 9223372036854775807) :
    Calls Tryz.prog 16 #[.agg #[.int .i64 1, .int .i64 a, .int .i64 b, .slice ad sn cap]] w fun e w' => e = .returned (.int .i64 (GT.eachErr (.mk 1 a b s))) ∧ Below w.heap.size w w' := by
  have z1 : decide (0 < sn) = false := by first | omega | (simp; omega)
  clear h
  go_enter Tryz.func16, Tryz.ntmps16
  go_upto_region 7 with (go_at_call 37; refine (rfar_any _ _).mono ?_; rintro e w' ⟨rfl, rfl⟩)
  generalize hW0 : w.alloc (.cells #[.int .i64 1, .int .i64 a, .int .i64 b, .slice ad sn cap] 24) = W0
  have hB0 : Below w.heap.size w W0 := by rw [← hW0]; repeat (first | with_reducible assumption | with_reducible exact Below.refl _ _ | with_reducible apply Below.drew | (with_reducible refine Below.alloc ?_ (by first | omega | (simp only [zA, zS, zD, zN]; omega) | (dsimp only; omega) | (simp only [zA, zS, zD, zN]; dsimp only; omega)) _) | (with_reducible refine Below.setCell ?_ (by first | omega | (simp only [zA, zS, zD, zN]; omega) | (dsimp only; omega) | (simp only [zA, zS, zD, zN]; dsimp only; omega)) _) | (with_reducible apply below_drewN))
  have X0 : Blk W0 w.heap.size #[.int .i64 1, .int .i64 a, .int .i64 b, .slice ad sn cap] 24 := by rw [← hW0]; exact Blk.new _ _ _
  have hs1 := hs.ext hB0
  clear hs hW0
  go_wp2_with fail
  go_loopw [3] (fun i wr => ∃ j : Nat, j ≤ sn ∧ i = .int .i64 j ∧ Below W0.heap.size W0 wr ∧ Hid (GT.eachErrL (s.drop 0) = GT.eachErrL (s.drop j))) (fun i _ => sn - (intOf i).toNat)
  case atStart => exact ⟨0, by omega, rfl, Below.refl _ _, rfl⟩
  case round =>
    obtain ⟨j, hj, rfl, hb2, HE⟩ := hrel
    have hzr := hb2.size
    have hz0 := hB0.size
    have hBr : Below w.heap.size w wr := hB0.trans (hb2.mono hB0.size)
    have xr := X0.ext hb2
    have f0 := xr.cell 0
    have f1 := xr.cell 1
    have f2 := xr.cell 2
    have f3 := xr.cell 3
    simp only [List.getElem?_toArray, List.getElem?_cons_succ, List.getElem?_cons_zero] at f0 f1 f2 f3
    by_cases hlt : j < sn
    · have p0 : (0 : Int) ≤ (j : Int) := by omega
      have p1 : (j : Int) < (sn : Int) := by omega
      have hlt' : j < s.length := by have := HN.out; omega
      obtain ⟨bl, off, rfl, hlt1, hc⟩ := (hs1.ext hb2).at' (by omega)
      obtain ⟨k2, a2, b2, t2, ad2, cap2, c0, c1, c2, c3, hg2⟩ := hc j hlt'
      clear hc hs1
      have CK := Lib.hid (fun W hW => IH.out s[j] (List.getElem_mem hlt') (.agg #[.int .i64 k2, .int .i64 a2, .int .i64 b2, .slice ad2 t2 cap2]) W (hg2.ext hW))
      have ST := Lib.hid (eachL_step s j hlt')
      generalize GT.eachErr s[j] = ej at *
      go_wp2_with fail
      refine (CK.out _ (by repeat (first | with_reducible assumption | with_reducible exact Below.refl _ _ | with_reducible apply Below.drew | (with_reducible refine Below.alloc ?_ (by first | omega | (simp only [zA, zS, zD, zN]; omega) | (dsimp only; omega) | (simp only [zA, zS, zD, zN]; dsimp only; omega)) _) | (with_reducible refine Below.setCell ?_ (by first | omega | (simp only [zA, zS, zD, zN]; omega) | (dsimp only; omega) | (simp only [zA, zS, zD, zN]; dsimp only; omega)) _) | (with_reducible apply below_drewN)))).mono ?_
      rintro e w3 ⟨rfl, hb3⟩
      have hB3 : Below W0.heap.size W0 w3 := Below.trans (by repeat (first | with_reducible assumption | with_reducible exact Below.refl _ _ | with_reducible apply Below.drew | (with_reducible refine Below.alloc ?_ (by first | omega | (simp only [zA, zS, zD, zN]; omega) | (dsimp only; omega) | (simp only [zA, zS, zD, zN]; dsimp only; omega)) _) | (with_reducible refine Below.setCell ?_ (by first | omega | (simp only [zA, zS, zD, zN]; omega) | (dsimp only; omega) | (simp only [zA, zS, zD, zN]; dsimp only; omega)) _) | (with_reducible apply below_drewN))) (hb3.mono (by first | omega | (simp only [zA, zS, zD, zN]; omega) | (dsimp only; omega) | (simp only [zA, zS, zD, zN]; dsimp only; omega)))
      have hBw : Below w.heap.size w w3 := hB0.trans (hB3.mono hB0.size)
      clear hb3
      by_cases he : ej = 0
      · have HE2 := ST.out
        rw [if_pos he] at HE2
        subst he
        go_wp2_with fail
        exact ⟨⟨j + 1, by omega, by go_num, hB3, HE.out.trans HE2⟩, by simp [intOf]; omega⟩
      · have HE2 := ST.out
        rw [if_neg he] at HE2
        have hq : (ej == 0) = false := by simpa using he
        go_wp2_with fail
        go_ret
        exact ⟨by rw [HR.out, HE.out, HE2]; rfl, hBw⟩
    · have hj' : j = s.length := by have := HN.out; omega
      have p1 : ¬ (j : Int) < (sn : Int) := by omega
      have HE2 := HE.out
      rw [hj', List.drop_length] at HE2
      clear hj'
      go_wp2_with fail
      go_ret
      exact ⟨by rw [HR.out, HE2]; rfl, hBr⟩
set_option maxHeartbeats 1000000 in
theorem rpf_2a (a b : Int) (s : List GT) (sn : Nat) (HN : Hid (sn = s.length)) (cap : Nat) (ad : Option Addr) (ha : In64 a) (hb : In64 b) (fa : GT.far a = true) (HR : Hid (GT.eachErr (.mk 2 a b s) = 1)) (IH : Hid (∀ x ∈ s, ∀ (v : Value) (w : World), GenAt w v x → Calls Tryz.prog 16 #[v] w fun e w' => e = .returned (.int .i64 (GT.eachErr x)) ∧ Below w.heap.size w w')) (w : World) (hs : GensAt w ad s) (hl : sn ≤ 9223372036854775807) :
    Calls Tryz.prog 16 #[.agg #[.int .i64 2, .int .i64 a, .int .i64 b, .slice ad sn cap]] w fun e w' => e = .returned (.int .i64 (GT.eachErr (.mk 2 a b s))) ∧ Below w.heap.size w w' := by
  go_enter Tryz.func16, Tryz.ntmps16
  go_wp2_with (go_at_call 37; refine (rfar_any _ _).mono ?_; rintro e w' ⟨rfl, rfl⟩)
  go_ret
  exact ⟨by rw [HR.out]; rfl, by repeat (first | with_reducible assumption | with_reducible exact Below.refl _ _ | with_reducible apply Below.drew | (with_reducible refine Below.alloc ?_ (by first | omega | (simp only [zA, zS, zD, zN]; omega) | (dsimp only; omega) | (simp only [zA, zS, zD, zN]; dsimp only; omega)) _) | (with_reducible refine Below.setCell ?_ (by first | omega | (simp only [zA, zS, zD, zN]; omega) | (dsimp only; omega) | (simp only [zA, zS, zD, zN]; dsimp only; omega)) _) | (with_reducible apply below_drewN))⟩
set_option maxHeartbeats 1000000 in
theorem rpf_2b (a b : Int) (s : List GT) (sn : Nat) (HN : Hid (sn = s.length)) (cap : Nat) (ad : Option Addr) (ha : In64 a) (hb : In64 b) (nfa : GT.far a = false) (fb : GT.far b = true) (HR : Hid (GT.eachErr (.mk 2 a b s) = 1)) (IH : Hid (∀ x ∈ s, ∀ (v : Value) (w : World), GenAt w v x → Calls Tryz.prog 16 #[v] w fun e w' => e = .returned (.int .i64 (GT.eachErr x)) ∧ Below w.heap.size w w')) (w : World) (hs : GensAt w ad s) (hl : sn ≤ 9223372036854775807) :
    Calls Tryz.prog 16 #[.agg #[.int .i64 2, .int .i64 a, .int .i64 b, .slice ad sn cap]] w fun e w' => e = .returned (.int .i64 (GT.eachErr (.mk 2 a b s))) ∧ Below w.heap.size w w' := by
  go_enter Tryz.func16, Tryz.ntmps16
  go_wp2_with (go_at_call 37; refine (rfar_any _ _).mono ?_; rintro e w' ⟨rfl, rfl⟩)
  go_ret
  exact ⟨by rw [HR.out]; rfl, by repeat (first | with_reducible assumption | with_reducible exact Below.refl _ _ | with_reducible apply Below.drew | (with_reducible refine Below.alloc ?_ (by first | omega | (simp only [zA, zS, zD, zN]; omega) | (dsimp only; omega) | (simp only [zA, zS, zD, zN]; dsimp only; omega)) _) | (with_reducible refine Below.setCell ?_ (by first | omega | (simp only [zA, zS, zD, zN]; omega) | (dsimp only; omega) | (simp only [zA, zS, zD, zN]; dsimp only; omega)) _) | (with_reducible apply below_drewN))⟩
set_option maxHeartbeats 1000000 in
theorem rpf_2c (a b : Int) (s : List GT) (sn : Nat) (HN : Hid (sn = s.length)) (cap : Nat) (ad : Option Addr) (ha : In64 a) (hb : In64 b) (nfa : GT.far a = false) (nfb : GT.far b = false) (h : b < a) (HR : Hid (GT.eachErr (.mk 2 a b s) = 1)) (IH : Hid (∀ x ∈ s, ∀ (v : Value) (w : World), GenAt w v x → Calls Tryz.prog 16 #[v] w fun e w' => e = .returned (.int .i64 (GT.eachErr x)) ∧ Below w.heap.size w w')) (w : World) (hs : GensAt w ad s) (hl : sn ≤ 9223372036854775807) :
    Calls Tryz.prog 16 #[.agg #[.int .i64 2, .int .i64 a, .int .i64 b, .slice ad sn cap]] w fun e w' => e = .returned (.int .i64 (GT.eachErr (.mk 2 a b s))) ∧ Below w.heap.size w w' := by
  go_enter Tryz.func16, Tryz.ntmps16
  go_wp2_with (go_at_call 37; refine (rfar_any _ _).mono ?_; rintro e w' ⟨rfl, rfl⟩)
  go_ret
  exact ⟨by rw [HR.out]; rfl, by repeat (first | with_reducible assumption | with_reducible exact Below.refl _ _ | with_reducible apply Below.drew | (with_reducible refine Below.alloc ?_ (by first | omega | (simp only [zA, zS, zD, zN]; omega) | (dsimp only; omega) | (simp only [zA, zS, zD, zN]; dsimp only; omega)) _) | (with_reducible refine Below.setCell ?_ (by first | omega | (simp only [zA, zS, zD, zN]; omega) | (dsimp only; omega) | (simp only [zA, zS, zD, zN]; dsimp only; omega)) _) | (with_reducible apply below_drewN))⟩
set_option maxHeartbeats 1000000 in
theorem rpf_2d (a b : Int) (s : List GT) (sn : Nat) (HN : Hid (sn = s.length)) (cap : Nat) (ad : Option Addr) (ha : In64 a) (hb : In64 b) (nfa : GT.far a = false) (nfb : GT.far b = false) (h : ¬ b < a) (h2 : 1000 < b - a) (HR : Hid (GT.eachErr (.mk 2 a b s) = 1)) (IH : Hid (∀ x ∈ s, ∀ (v : Value) (w : World), GenAt w v x → Calls Tryz.prog 16 #[v] w fun e w' => e = .returned (.int .i64 (GT.eachErr x)) ∧ Below w.heap.size w w')) (w : World) (hs : GensAt w ad s) (hl : sn ≤ 9223372036854775807) :
    Calls Tryz.prog 16 #[.agg #[.int .i64 2, .int .i64 a, .int .i64 b, .slice ad sn cap]] w fun e w' => e = .returned (.int .i64 (GT.eachErr (.mk 2 a b s))) ∧ Below w.heap.size w w' := by
  have l1 : -1073741824 ≤ a ∧ a ≤ 1073741824 := by simp [GT.far] at nfa; omega
  have l2 : -1073741824 ≤ b ∧ b ≤ 1073741824 := by simp [GT.far] at nfb; omega
  obtain ⟨l11, l12⟩ := l1
  obtain ⟨l21, l22⟩ := l2
  go_enter Tryz.func16, Tryz.ntmps16
  go_wp2_with (go_at_call 37; refine (rfar_any _ _).mono ?_; rintro e w' ⟨rfl, rfl⟩)
  go_ret
  exact ⟨by rw [HR.out]; rfl, by repeat (first | with_reducible assumption | with_reducible exact Below.refl _ _ | with_reducible apply Below.drew | (with_reducible refine Below.alloc ?_ (by first | omega | (simp only [zA, zS, zD, zN]; omega) | (dsimp only; omega) | (simp only [zA, zS, zD, zN]; dsimp only; omega)) _) | (with_reducible refine Below.setCell ?_ (by first | omega | (simp only [zA, zS, zD, zN]; omega) | (dsimp only; omega) | (simp only [zA, zS, zD, zN]; dsimp only; omega)) _) | (with_reducible apply below_drewN))⟩
set_option maxHeartbeats 1000000 in
theorem rpf_2e (a b : Int) (s : List GT) (sn : Nat) (HN : Hid (sn = s.length)) (cap : Nat) (ad : Option Addr) (ha : In64 a) (hb : In64 b) (nfa : GT.far a = false) (nfb : GT.far b = false) (h : ¬ b < a) (h2 : ¬ 1000 < b - a) (h3 : 0 < sn) (HR : Hid (GT.eachErr (.mk 2 a b s) = 3)) (IH : Hid (∀ x ∈ s, ∀ (v : Value) (w : World), GenAt w v x → Calls Tryz.prog 16 #[v] w fun e w' => e = .returned (.int .i64 (GT.eachErr x)) ∧ Below w.heap.size w w')) (w : World) (hs : GensAt w ad s) (hl : sn ≤ 9223372036854775807) :
    Calls Tryz.prog 16 #[.agg #[.int .i64 2, .int .i64 a, .int .i64 b, .slice ad sn cap]] w fun e w' => e = .returned (.int .i64 (GT.eachErr (.mk 2 a b s))) ∧ Below w.heap.size w w' := by
  have l1 : -1073741824 ≤ a ∧ a ≤ 1073741824 := by simp [GT.far] at nfa; omega
  have l2 : -1073741824 ≤ b ∧ b ≤ 1073741824 := by simp [GT.far] at nfb; omega
  obtain ⟨l11, l12⟩ := l1
  obtain ⟨l21, l22⟩ := l2
  have z1 : (0 : Int) < (sn : Int) := by first | omega | (simp; omega)
  clear h3
  go_enter Tryz.func16, Tryz.ntmps16
  go_wp2_with (go_at_call 37; refine (rfar_any _ _).mono ?_; rintro e w' ⟨rfl, rfl⟩)
  go_ret
  exact ⟨by rw [HR.out]; rfl, by repeat (first | with_reducible assumption | with_reducible exact Below.refl _ _ | with_reducible apply Below.drew | (with_reducible refine Below.alloc ?_ (by first | omega | (simp only [zA, zS, zD, zN]; omega) | (dsimp only; omega) | (simp only [zA, zS, zD, zN]; dsimp only; omega)) _) | (with_reducible refine Below.setCell ?_ (by first | omega | (simp only [zA, zS, zD, zN]; omega) | (dsimp only; omega) | (simp only [zA, zS, zD, zN]; dsimp only; omega)) _) | (with_reducible apply below_drewN))⟩
set_option maxHeartbeats 1000000 in
theorem rpf_2f (a b : Int) (s : List GT) (sn : Nat) (HN : Hid (sn = s.length)) (cap : Nat) (ad : Option Addr) (ha : In64 a) (hb : In64 b) (nfa : GT.far a = false) (nfb : GT.far b = false) (h : ¬ b < a) (h2 : ¬ 1000 < b - a) (h3 : sn = 0) (HR : Hid (GT.eachErr (.mk 2 a b s) = GT.eachErrL (s.drop 0))) (IH : Hid (∀ x ∈ s, ∀ (v : Value) (w : World), GenAt w v x → Calls Tryz.prog 16 #[v] w fun e w' => e = .returned (.int .i64 (GT.eachErr x)) ∧ Below w.heap.size w w')) (w : World) (hs : GensAt w ad s) (hl : sn ≤ 9223372036854775807) :
    Calls Tryz.prog 16 #[.agg #[.int .i64 2, .int .i64 a, .int .i64 b, .slice ad sn cap]] w fun e w' => e = .returned (.int .i64 (GT.eachErr (.mk 2 a b s))) ∧ Below w.heap.size w w' := by
  have l1 : -1073741824 ≤ a ∧ a ≤ 1073741824 := by simp [GT.far] at nfa; omega
  have l2 : -1073741824 ≤ b ∧ b ≤ 1073741824 := by simp [GT.far] at nfb; omega
  obtain ⟨l11, l12⟩ := l1
  obtain ⟨l21, l22⟩ := l2
  have z1 : decide (0 < sn) = false := by first | omega | (simp; omega)
  clear h3
  go_enter Tryz.func16, Tryz.ntmps16
  go_upto_region 7 with (go_at_call 37; refine (rfar_any _ _).mono ?_; rintro e w' ⟨rfl, rfl⟩)
  generalize hW0 : w.alloc (.cells #[.int .i64 2, .int .i64 a, .int .i64 b, .slice ad sn cap] 24) = W0
  have hB0 : Below w.heap.size w W0 := by rw [← hW0]; repeat (first | with_reducible assumption | with_reducible exact Below.refl _ _ | with_reducible apply Below.drew | (with_reducible refine Below.alloc ?_ (by first | omega | (simp only [zA, zS, zD, zN]; omega) | (dsimp only; omega) | (simp only [zA, zS, zD, zN]; dsimp only; omega)) _) | (with_reducible refine Below.setCell ?_ (by first | omega | (simp only [zA, zS, zD, zN]; omega) | (dsimp only; omega) | (simp only [zA, zS, zD, zN]; dsimp only; omega)) _) | (with_reducible apply below_drewN))
  have X0 : Blk W0 w.heap.size #[.int .i64 2, .int .i64 a, .int .i64 b, .slice ad sn cap] 24 := by rw [← hW0]; exact Blk.new _ _ _
  have hs1 := hs.ext hB0
  clear hs hW0
  go_wp2_with fail
  go_loopw [3] (fun i wr => ∃ j : Nat, j ≤ sn ∧ i = .int .i64 j ∧ Below W0.heap.size W0 wr ∧ Hid (GT.eachErrL (s.drop 0) = GT.eachErrL (s.drop j))) (fun i _ => sn - (intOf i).toNat)
  case atStart => exact ⟨0, by omega, rfl, Below.refl _ _, rfl⟩
  case round =>
    obtain ⟨j, hj, rfl, hb2, HE⟩ := hrel
    have hzr := hb2.size
    have hz0 := hB0.size
    have hBr : Below w.heap.size w wr := hB0.trans (hb2.mono hB0.size)
    have xr := X0.ext hb2
    have f0 := xr.cell 0
    have f1 := xr.cell 1
    have f2 := xr.cell 2
    have f3 := xr.cell 3
    simp only [List.getElem?_toArray, List.getElem?_cons_succ, List.getElem?_cons_zero] at f0 f1 f2 f3
    by_cases hlt : j < sn
    · have p0 : (0 : Int) ≤ (j : Int) := by omega
      have p1 : (j : Int) < (sn : Int) := by omega
      have hlt' : j < s.length := by have := HN.out; omega
      obtain ⟨bl, off, rfl, hlt1, hc⟩ := (hs1.ext hb2).at' (by omega)
      obtain ⟨k2, a2, b2, t2, ad2, cap2, c0, c1, c2, c3, hg2⟩ := hc j hlt'
      clear hc hs1
      have CK := Lib.hid (fun W hW => IH.out s[j] (List.getElem_mem hlt') (.agg #[.int .i64 k2, .int .i64 a2, .int .i64 b2, .slice ad2 t2 cap2]) W (hg2.ext hW))
      have ST := Lib.hid (eachL_step s j hlt')
      generalize GT.eachErr s[j] = ej at *
      go_wp2_with fail
      refine (CK.out _ (by repeat (first | with_reducible assumption | with_reducible exact Below.refl _ _ | with_reducible apply Below.drew | (with_reducible refine Below.alloc ?_ (by first | omega | (simp only [zA, zS, zD, zN]; omega) | (dsimp only; omega) | (simp only [zA, zS, zD, zN]; dsimp only; omega)) _) | (with_reducible refine Below.setCell ?_ (by first | omega | (simp only [zA, zS, zD, zN]; omega) | (dsimp only; omega) | (simp only [zA, zS, zD, zN]; dsimp only; omega)) _) | (with_reducible apply below_drewN)))).mono ?_
      rintro e w3 ⟨rfl, hb3⟩
      have hB3 : Below W0.heap.size W0 w3 := Below.trans (by repeat (first | with_reducible assumption | with_reducible exact Below.refl _ _ | with_reducible apply Below.drew | (with_reducible refine Below.alloc ?_ (by first | omega | (simp only [zA, zS, zD, zN]; omega) | (dsimp only; omega) | (simp only [zA, zS, zD, zN]; dsimp only; omega)) _) | (with_reducible refine Below.setCell ?_ (by first | omega | (simp only [zA, zS, zD, zN]; omega) | (dsimp only; omega) | (simp only [zA, zS, zD, zN]; dsimp only; omega)) _) | (with_reducible apply below_drewN))) (hb3.mono (by first | omega | (simp only [zA, zS, zD, zN]; omega) | (dsimp only; omega) | (simp only [zA, zS, zD, zN]; dsimp only; omega)))
      have hBw : Below w.heap.size w w3 := hB0.trans (hB3.mono hB0.size)
      clear hb3
      by_cases he : ej = 0
      · have HE2 := ST.out
        rw [if_pos he] at HE2
        subst he
        go_wp2_with fail
        exact ⟨⟨j + 1, by omega, by go_num, hB3, HE.out.trans HE2⟩, by simp [intOf]; omega⟩
      · have HE2 := ST.out
        rw [if_neg he] at HE2
        have hq : (ej == 0) = false := by simpa using he
        go_wp2_with fail
        go_ret
        exact ⟨by rw [HR.out, HE.out, HE2]; rfl, hBw⟩
    · have hj' : j = s.length := by have := HN.out; omega
      have p1 : ¬ (j : Int) < (sn : Int) := by omega
      have HE2 := HE.out
      rw [hj', List.drop_length] at HE2
      clear hj'
      go_wp2_with fail
      go_ret
      exact ⟨by rw [HR.out, HE2]; rfl, hBr⟩
set_option maxHeartbeats 1000000 in
theorem rpf_3 (a b : Int) (s : List GT) (sn : Nat) (HN : Hid (sn = s.length)) (cap : Nat) (ad : Option Addr) (ha : In64 a) (hb : In64 b) (HR : Hid (GT.eachErr (.mk 3 a b s) = GT.eachErrL (s.drop 0))) (IH : Hid (∀ x ∈ s, ∀ (v : Value) (w : World), GenAt w v x → Calls Tryz.prog 16 #[v] w fun e w' => e = .returned (.int .i64 (GT.eachErr x)) ∧ Below w.heap.size w w')) (w : World) (hs : GensAt w ad s) (hl : sn ≤ 9223372036854775807) :
    Calls Tryz.prog 16 #[.agg #[.int .i64 3, .int .i64 a, .int .i64 b, .slice ad sn cap]] w fun e w' => e = .returned (.int .i64 (GT.eachErr (.mk 3 a b s))) ∧ Below w.heap.size w w' := by
  go_enter Tryz.func16, Tryz.ntmps16
  go_upto_region 7 with (go_at_call 37; refine (rfar_any _ _).mono ?_; rintro e w' ⟨rfl, rfl⟩)
  generalize hW0 : w.alloc (.cells #[.int .i64 3, .int .i64 a, .int .i64 b, .slice ad sn cap] 24) = W0
  have hB0 : Below w.heap.size w W0 := by rw [← hW0]; repeat (first | with_reducible assumption | with_reducible exact Below.refl _ _ | with_reducible apply Below.drew | (with_reducible refine Below.alloc ?_ (by first | omega | (simp only [zA, zS, zD, zN]; omega) | (dsimp only; omega) | (simp only [zA, zS, zD, zN]; dsimp only; omega)) _) | (with_reducible refine Below.setCell ?_ (by first | omega | (simp only [zA, zS, zD, zN]; omega) | (dsimp only; omega) | (simp only [zA, zS, zD, zN]; dsimp only; omega)) _) | (with_reducible apply below_drewN))
  have X0 : Blk W0 w.heap.size #[.int .i64 3, .int .i64 a, .int .i64 b, .slice ad sn cap] 24 := by rw [← hW0]; exact Blk.new _ _ _
  have hs1 := hs.ext hB0
  clear hs hW0
  go_wp2_with fail
  go_loopw [3] (fun i wr => ∃ j : Nat, j ≤ sn ∧ i = .int .i64 j ∧ Below W0.heap.size W0 wr ∧ Hid (GT.eachErrL (s.drop 0) = GT.eachErrL (s.drop j))) (fun i _ => sn - (intOf i).toNat)
  case atStart => exact ⟨0, by omega, rfl, Below.refl _ _, rfl⟩
  case round =>
    obtain ⟨j, hj, rfl, hb2, HE⟩ := hrel
    have hzr := hb2.size
    have hz0 := hB0.size
    have hBr : Below w.heap.size w wr := hB0.trans (hb2.mono hB0.size)
    have xr := X0.ext hb2
    have f0 := xr.cell 0
    have f1 := xr.cell 1
    have f2 := xr.cell 2
    have f3 := xr.cell 3
    simp only [List.getElem?_toArray, List.getElem?_cons_succ, List.getElem?_cons_zero] at f0 f1 f2 f3
    by_cases hlt : j < sn
    · have p0 : (0 : Int) ≤ (j : Int) := by omega
      have p1 : (j : Int) < (sn : Int) := by omega
      have hlt' : j < s.length := by have := HN.out; omega
      obtain ⟨bl, off, rfl, hlt1, hc⟩ := (hs1.ext hb2).at' (by omega)
      obtain ⟨k2, a2, b2, t2, ad2, cap2, c0, c1, c2, c3, hg2⟩ := hc j hlt'
      clear hc hs1
      have CK := Lib.hid (fun W hW => IH.out s[j] (List.getElem_mem hlt') (.agg #[.int .i64 k2, .int .i64 a2, .int .i64 b2, .slice ad2 t2 cap2]) W (hg2.ext hW))
      have ST := Lib.hid (eachL_step s j hlt')
      generalize GT.eachErr s[j] = ej at *
      go_wp2_with fail
      refine (CK.out _ (by repeat (first | with_reducible assumption | with_reducible exact Below.refl _ _ | with_reducible apply Below.drew | (with_reducible refine Below.alloc ?_ (by first | omega | (simp only [zA, zS, zD, zN]; omega) | (dsimp only; omega) | (simp only [zA, zS, zD, zN]; dsimp only; omega)) _) | (with_reducible refine Below.setCell ?_ (by first | omega | (simp only [zA, zS, zD, zN]; omega) | (dsimp only; omega) | (simp only [zA, zS, zD, zN]; dsimp only; omega)) _) | (with_reducible apply below_drewN)))).mono ?_
      rintro e w3 ⟨rfl, hb3⟩
      have hB3 : Below W0.heap.size W0 w3 := Below.trans (by repeat (first | with_reducible assumption | with_reducible exact Below.refl _ _ | with_reducible apply Below.drew | (with_reducible refine Below.alloc ?_ (by first | omega | (simp only [zA, zS, zD, zN]; omega) | (dsimp only; omega) | (simp only [zA, zS, zD, zN]; dsimp only; omega)) _) | (with_reducible refine Below.setCell ?_ (by first | omega | (simp only [zA, zS, zD, zN]; omega) | (dsimp only; omega) | (simp only [zA, zS, zD, zN]; dsimp only; omega)) _) | (with_reducible apply below_drewN))) (hb3.mono (by first | omega | (simp only [zA, zS, zD, zN]; omega) | (dsimp only; omega) | (simp only [zA, zS, zD, zN]; dsimp only; omega)))
      have hBw : Below w.heap.size w w3 := hB0.trans (hB3.mono hB0.size)
      clear hb3
      by_cases he : ej = 0
      · have HE2 := ST.out
        rw [if_pos he] at HE2
        subst he
        go_wp2_with fail
        exact ⟨⟨j + 1, by omega, by go_num, hB3, HE.out.trans HE2⟩, by simp [intOf]; omega⟩
      · have HE2 := ST.out
        rw [if_neg he] at HE2
        have hq : (ej == 0) = false := by simpa using he
        go_wp2_with fail
        go_ret
        exact ⟨by rw [HR.out, HE.out, HE2]; rfl, hBw⟩
    · have hj' : j = s.length := by have := HN.out; omega
      have p1 : ¬ (j : Int) < (sn : Int) := by omega
      have HE2 := HE.out
      rw [hj', List.drop_length] at HE2
      clear hj'
      go_wp2_with fail
      go_ret
      exact ⟨by rw [HR.out, HE2]; rfl, hBr⟩
set_option maxHeartbeats 1000000 in
theorem rpf_4a (a b : Int) (s : List GT) (sn : Nat) (HN : Hid (sn = s.length)) (cap : Nat) (ad : Option Addr) (ha : In64 a) (hb : In64 b) (h : a < 0) (HR : Hid (GT.eachErr (.mk 4 a b s) = 1)) (IH : Hid (∀ x ∈ s, ∀ (v : Value) (w : World), GenAt w v x → Calls Tryz.prog 16 #[v] w fun e w' => e = .returned (.int .i64 (GT.eachErr x)) ∧ Below w.heap.size w w')) (w : World) (hs : GensAt w ad s) (hl : sn ≤ 9223372036854775807) :
    Calls Tryz.prog 16 #[.agg #[.int .i64 4, .int .i64 a, .int .i64 b, .slice ad sn cap]] w fun e w' => e = .returned (.int .i64 (GT.eachErr (.mk 4 a b s))) ∧ Below w.heap.size w w' := by
  go_enter Tryz.func16, Tryz.ntmps16
  go_wp2_with (go_at_call 37; refine (rfar_any _ _).mono ?_; rintro e w' ⟨rfl, rfl⟩)
  go_ret
  exact ⟨by rw [HR.out]; rfl, by repeat (first | with_reducible assumption | with_reducible exact Below.refl _ _ | with_reducible apply Below.drew | (with_reducible refine Below.alloc ?_ (by first | omega | (simp only [zA, zS, zD, zN]; omega) | (dsimp only; omega) | (simp only [zA, zS, zD, zN]; dsimp only; omega)) _) | (with_reducible refine Below.setCell ?_ (by first | omega | (simp only [zA, zS, zD, zN]; omega) | (dsimp only; omega) | (simp only [zA, zS, zD, zN]; dsimp only; omega)) _) | (with_reducible apply below_drewN))⟩
set_option maxHeartbeats 1000000 in
theorem rpf_4b (a b : Int) (s : List GT) (sn : Nat) (HN : Hid (sn = s.length)) (cap : Nat) (ad : Option Addr) (ha : In64 a) (hb : In64 b) (h : ¬ a < 0) (h2 : 5 < a) (HR : Hid (GT.eachErr (.mk 4 a b s) = 1)) (IH : Hid (∀ x ∈ s, ∀ (v : Value) (w : World), GenAt w v x → Calls Tryz.prog 16 #[v] w fun e w' => e = .returned (.int .i64 (GT.eachErr x)) ∧ Below w.heap.size w w')) (w : World) (hs : GensAt w ad s) (hl : sn ≤ 9223372036854775807) :
    Calls Tryz.prog 16 #[.agg #[.int .i64 4, .int .i64 a, .int .i64 b, .slice ad sn cap]] w fun e w' => e = .returned (.int .i64 (GT.eachErr (.mk 4 a b s))) ∧ Below w.heap.size w w' := by
  go_enter Tryz.func16, Tryz.ntmps16
  go_wp2_with (go_at_call 37; refine (rfar_any _ _).mono ?_; rintro e w' ⟨rfl, rfl⟩)
  go_ret
  exact ⟨by rw [HR.out]; rfl, by repeat (first | with_reducible assumption | with_reducible exact Below.refl _ _ | with_reducible apply Below.drew | (with_reducible refine Below.alloc ?_ (by first | omega | (simp only [zA, zS, zD, zN]; omega) | (dsimp only; omega) | (simp only [zA, zS, zD, zN]; dsimp only; omega)) _) | (with_reducible refine Below.setCell ?_ (by first | omega | (simp only [zA, zS, zD, zN]; omega) | (dsimp only; omega) | (simp only [zA, zS, zD, zN]; dsimp only; omega)) _) | (with_reducible apply below_drewN))⟩
set_option maxHeartbeats 1000000 in
theorem rpf_4c (a b : Int) (s : List GT) (sn : Nat) (HN : Hid (sn = s.length)) (cap : Nat) (ad : Option Addr) (ha : In64 a) (hb : In64 b) (h : ¬ a < 0) (h2 : ¬ 5 < a) (h3 : sn ≠ 1) (HR : Hid (GT.eachErr (.mk 4 a b s) = 3)) (IH : Hid (∀ x ∈ s, ∀ (v : Value) (w : World), GenAt w v x → Calls Tryz.prog 16 #[v] w fun e w' => e = .returned (.int .i64 (GT.eachErr x)) ∧ Below w.heap.size w w')) (w : World) (hs : GensAt w ad s) (hl : sn ≤ 9223372036854775807) :
    Calls Tryz.prog 16 #[.agg #[.int .i64 4, .int .i64 a, .int .i64 b, .slice ad sn cap]] w fun e w' => e = .returned (.int .i64 (GT.eachErr (.mk 4 a b s))) ∧ Below w.heap.size w w' := by
  have z1 : ((sn : Int) != 1) = true := by first | omega | (simp; omega)
  clear h3
  go_enter Tryz.func16, Tryz.ntmps16
  go_wp2_with (go_at_call 37; refine (rfar_any _ _).mono ?_; rintro e w' ⟨rfl, rfl⟩)
  go_ret
  exact ⟨by rw [HR.out]; rfl, by repeat (first | with_reducible assumption | with_reducible exact Below.refl _ _ | with_reducible apply Below.drew | (with_reducible refine Below.alloc ?_ (by first | omega | (simp only [zA, zS, zD, zN]; omega) | (dsimp only; omega) | (simp only [zA, zS, zD, zN]; dsimp only; omega)) _) | (with_reducible refine Below.setCell ?_ (by first | omega | (simp only [zA, zS, zD, zN]; omega) | (dsimp only; omega) | (simp only [zA, zS, zD, zN]; dsimp only; omega)) _) | (with_reducible apply below_drewN))⟩
set_option maxHeartbeats 1000000 in
theorem rpf_4d (a b : Int) (s : List GT) (sn : Nat) (HN : Hid (sn = s.length)) (cap : Nat) (ad : Option Addr) (ha : In64 a) (hb : In64 b) (h : ¬ a < 0) (h2 : ¬ 5 < a) (h3 : sn = 1) (HR : Hid (GT.eachErr (.mk 4 a b s) = GT.eachErrL (s.drop 0))) (IH : Hid (∀ x ∈ s, ∀ (v : Value) (w : World), GenAt w v x → Calls Tryz.prog 16 #[v] w fun e w' => e = .returned (.int .i64 (GT.eachErr x)) ∧ Below w.heap.size w w')) (w : World) (hs : GensAt w ad s) (hl : sn ≤ 9223372036854775807) :
    Calls Tryz.prog 16 #[.agg #[.int .i64 4, .int .i64 a, .int .i64 b, .slice ad sn cap]] w fun e w' => e = .returned (.int .i64 (GT.eachErr (.mk 4 a b s))) ∧ Below w.heap.size w w' := by
  have z1 : ((sn : Int) != 1) = false := by first | omega | (simp; omega)
  clear h3
  go_enter Tryz.func16, Tryz.ntmps16
  go_upto_region 7 with (go_at_call 37; refine (rfar_any _ _).mono ?_; rintro e w' ⟨rfl, rfl⟩)
  generalize hW0 : w.alloc (.cells #[.int .i64 4, .int .i64 a, .int .i64 b, .slice ad sn cap] 24) = W0
  have hB0 : Below w.heap.size w W0 := by rw [← hW0]; repeat (first | with_reducible assumption | with_reducible exact Below.refl _ _ | with_reducible apply Below.drew | (with_reducible refine Below.alloc ?_ (by first | omega | (simp only [zA, zS, zD, zN]; omega) | (dsimp only; omega) | (simp only [zA, zS, zD, zN]; dsimp only; omega)) _) | (with_reducible refine Below.setCell ?_ (by first | omega | (simp only [zA, zS, zD, zN]; omega) | (dsimp only; omega) | (simp only [zA, zS, zD, zN]; dsimp only; omega)) _) | (with_reducible apply below_drewN))
  have X0 : Blk W0 w.heap.size #[.int .i64 4, .int .i64 a, .int .i64 b, .slice ad sn cap] 24 := by rw [← hW0]; exact Blk.new _ _ _
  have hs1 := hs.ext hB0
  clear hs hW0
  go_wp2_with fail
  go_loopw [3] (fun i wr => ∃ j : Nat, j ≤ sn ∧ i = .int .i64 j ∧ Below W0.heap.size W0 wr ∧ Hid (GT.eachErrL (s.drop 0) = GT.eachErrL (s.drop j))) (fun i _ => sn - (intOf i).toNat)
  case atStart => exact ⟨0, by omega, rfl, Below.refl _ _, rfl⟩
  case round =>
    obtain ⟨j, hj, rfl, hb2, HE⟩ := hrel
    have hzr := hb2.size
    have hz0 := hB0.size
    have hBr : Below w.heap.size w wr := hB0.trans (hb2.mono hB0.size)
    have xr := X0.ext hb2
    have f0 := xr.cell 0
    have f1 := xr.cell 1
    have f2 := xr.cell 2
    have f3 := xr.cell 3
    simp only [List.getElem?_toArray, List.getElem?_cons_succ, List.getElem?_cons_zero] at f0 f1 f2 f3
    by_cases hlt : j < sn
    · have p0 : (0 : Int) ≤ (j : Int) := by omega
      have p1 : (j : Int) < (sn : Int) := by omega
      have hlt' : j < s.length := by have := HN.out; omega
      obtain ⟨bl, off, rfl, hlt1, hc⟩ := (hs1.ext hb2).at' (by omega)
      obtain ⟨k2, a2, b2, t2, ad2, cap2, c0, c1, c2, c3, hg2⟩ := hc j hlt'
      clear hc hs1
      have CK := Lib.hid (fun W hW => IH.out s[j] (List.getElem_mem hlt') (.agg #[.int .i64 k2, .int .i64 a2, .int .i64 b2, .slice ad2 t2 cap2]) W (hg2.ext hW))
      have ST := Lib.hid (eachL_step s j hlt')
      generalize GT.eachErr s[j] = ej at *
      go_wp2_with fail
      refine (CK.out _ (by repeat (first | with_reducible assumption | with_reducible exact Below.refl _ _ | with_reducible apply Below.drew | (with_reducible refine Below.alloc ?_ (by first | omega | (simp only [zA, zS, zD, zN]; omega) | (dsimp only; omega) | (simp only [zA, zS, zD, zN]; dsimp only; omega)) _) | (with_reducible refine Below.setCell ?_ (by first | omega | (simp only [zA, zS, zD, zN]; omega) | (dsimp only; omega) | (simp only [zA, zS, zD, zN]; dsimp only; omega)) _) | (with_reducible apply below_drewN)))).mono ?_
      rintro e w3 ⟨rfl, hb3⟩
      have hB3 : Below W0.heap.size W0 w3 := Below.trans (by repeat (first | with_reducible assumption | with_reducible exact Below.refl _ _ | with_reducible apply Below.drew | (with_reducible refine Below.alloc ?_ (by first | omega | (simp only [zA, zS, zD, zN]; omega) | (dsimp only; omega) | (simp only [zA, zS, zD, zN]; dsimp only; omega)) _) | (with_reducible refine Below.setCell ?_ (by first | omega | (simp only [zA, zS, zD, zN]; omega) | (dsimp only; omega) | (simp only [zA, zS, zD, zN]; dsimp only; omega)) _) | (with_reducible apply below_drewN))) (hb3.mono (by first | omega | (simp only [zA, zS, zD, zN]; omega) | (dsimp only; omega) | (simp only [zA, zS, zD, zN]; dsimp only; omega)))
      have hBw : Below w.heap.size w w3 := hB0.trans (hB3.mono hB0.size)
      clear hb3
      by_cases he : ej = 0
      · have HE2 := ST.out
        rw [if_pos he] at HE2
        subst he
        go_wp2_with fail
        exact ⟨⟨j + 1, by omega, by go_num, hB3, HE.out.trans HE2⟩, by simp [intOf]; omega⟩
      · have HE2 := ST.out
        rw [if_neg he] at HE2
        have hq : (ej == 0) = false := by simpa using he
        go_wp2_with fail
        go_ret
        exact ⟨by rw [HR.out, HE.out, HE2]; rfl, hBw⟩
    · have hj' : j = s.length := by have := HN.out; omega
      have p1 : ¬ (j : Int) < (sn : Int) := by omega
      have HE2 := HE.out
      rw [hj', List.drop_length] at HE2
      clear hj'
      go_wp2_with fail
      go_ret
      exact ⟨by rw [HR.out, HE2]; rfl, hBr⟩
set_option maxHeartbeats 1000000 in
theorem rpf_5a (a b : Int) (s : List GT) (sn : Nat) (HN : Hid (sn = s.length)) (cap : Nat) (ad : Option Addr) (ha : In64 a) (hb : In64 b) (h : sn = 0) (HR : Hid (GT.eachErr (.mk 5 a b s) = 3)) (IH : Hid (∀ x ∈ s, ∀ (v : Value) (w : World), GenAt w v x → Calls Tryz.prog 16 #[v] w fun e w' => e = .returned (.int .i64 (GT.eachErr x)) ∧ Below w.heap.size w w')) (w : World) (hs : GensAt w ad s) (hl : sn ≤ 9223372036854775807) :
    Calls Tryz.prog 16 #[.agg #[.int .i64 5, .int .i64 a, .int .i64 b, .slice ad sn cap]] w fun e w' => e = .returned (.int .i64 (GT.eachErr (.mk 5 a b s))) ∧ Below w.heap.size w w' := by
  have z1 : ((sn : Int) == 0) = true := by first | omega | (simp; omega)
  clear h
  go_enter Tryz.func16, Tryz.ntmps16
  go_wp2_with (go_at_call 37; refine (rfar_any _ _).mono ?_; rintro e w' ⟨rfl, rfl⟩)
  go_ret
  exact ⟨by rw [HR.out]; rfl, by repeat (first | with_reducible assumption | with_reducible exact Below.refl _ _ | with_reducible apply Below.drew | (with_reducible refine Below.alloc ?_ (by first | omega | (simp only [zA, zS, zD, zN]; omega) | (dsimp only; omega) | (simp only [zA, zS, zD, zN]; dsimp only; omega)) _) | (with_reducible refine Below.setCell ?_ (by first | omega | (simp only [zA, zS, zD, zN]; omega) | (dsimp only; omega) | (simp only [zA, zS, zD, zN]; dsimp only; omega)) _) | (with_reducible apply below_drewN))⟩
set_option maxHeartbeats 1000000 in
theorem rpf_5b (a b : Int) (s : List GT) (sn : Nat) (HN : Hid (sn = s.length)) (cap : Nat) (ad : Option Addr) (ha : In64 a) (hb : In64 b) (h : sn ≠ 0) (HR : Hid (GT.eachErr (.mk 5 a b s) = GT.eachErrL (s.drop 0))) (IH : Hid (∀ x ∈ s, ∀ (v : Value) (w : World), GenAt w v x → Calls Tryz.prog 16 #[v] w fun e w' => e = .returned (.int .i64 (GT.eachErr x)) ∧ Below w.heap.size w w')) (w : World) (hs : GensAt w ad s) (hl : sn ≤ 9223372036854775807) :
    Calls Tryz.prog 16 #[.agg #[.int .i64 5, .int .i64 a, .int .i64 b, .slice ad sn cap]] w fun e w' => e = .returned (.int .i64 (GT.eachErr (.mk 5 a b s))) ∧ Below w.heap.size w w' := by
  have z1 : ((sn : Int) == 0) = false := by first | omega | (simp; omega)
  clear h
  go_enter Tryz.func16, Tryz.ntmps16
  go_upto_region 7 with (go_at_call 37; refine (rfar_any _ _).mono ?_; rintro e w' ⟨rfl, rfl⟩)
  generalize hW0 : w.alloc (.cells #[.int .i64 5, .int .i64 a, .int .i64 b, .slice ad sn cap] 24) = W0
  have hB0 : Below w.heap.size w W0 := by rw [← hW0]; repeat (first | with_reducible assumption | with_reducible exact Below.refl _ _ | with_reducible apply Below.drew | (with_reducible refine Below.alloc ?_ (by first | omega | (simp only [zA, zS, zD, zN]; omega) | (dsimp only; omega) | (simp only [zA, zS, zD, zN]; dsimp only; omega)) _) | (with_reducible refine Below.setCell ?_ (by first | omega | (simp only [zA, zS, zD, zN]; omega) | (dsimp only; omega) | (simp only [zA, zS, zD, zN]; dsimp only; omega)) _) | (with_reducible apply below_drewN))
  have X0 : Blk W0 w.heap.size #[.int .i64 5, .int .i64 a, .int .i64 b, .slice ad sn cap] 24 := by rw [← hW0]; exact Blk.new _ _ _
  have hs1 := hs.ext hB0
  clear hs hW0
  go_wp2_with fail
  go_loopw [3] (fun i wr => ∃ j : Nat, j ≤ sn ∧ i = .int .i64 j ∧ Below W0.heap.size W0 wr ∧ Hid (GT.eachErrL (s.drop 0) = GT.eachErrL (s.drop j))) (fun i _ => sn - (intOf i).toNat)
  case atStart => exact ⟨0, by omega, rfl, Below.refl _ _, rfl⟩
  case round =>
    obtain ⟨j, hj, rfl, hb2, HE⟩ := hrel
    have hzr := hb2.size
    have hz0 := hB0.size
    have hBr : Below w.heap.size w wr := hB0.trans (hb2.mono hB0.size)
    have xr := X0.ext hb2
    have f0 := xr.cell 0
    have f1 := xr.cell 1
    have f2 := xr.cell 2
    have f3 := xr.cell 3
    simp only [List.getElem?_toArray, List.getElem?_cons_succ, List.getElem?_cons_zero] at f0 f1 f2 f3
    by_cases hlt : j < sn
    · have p0 : (0 : Int) ≤ (j : Int) := by omega
      have p1 : (j : Int) < (sn : Int) := by omega
      have hlt' : j < s.length := by have := HN.out; omega
      obtain ⟨bl, off, rfl, hlt1, hc⟩ := (hs1.ext hb2).at' (by omega)
      obtain ⟨k2, a2, b2, t2, ad2, cap2, c0, c1, c2, c3, hg2⟩ := hc j hlt'
      clear hc hs1
      have CK := Lib.hid (fun W hW => IH.out s[j] (List.getElem_mem hlt') (.agg #[.int .i64 k2, .int .i64 a2, .int .i64 b2, .slice ad2 t2 cap2]) W (hg2.ext hW))
      have ST := Lib.hid (eachL_step s j hlt')
      generalize GT.eachErr s[j] = ej at *
      go_wp2_with fail
      refine (CK.out _ (by repeat (first | with_reducible assumption | with_reducible exact Below.refl _ _ | with_reducible apply Below.drew | (with_reducible refine Below.alloc ?_ (by first | omega | (simp only [zA, zS, zD, zN]; omega) | (dsimp only; omega) | (simp only [zA, zS, zD, zN]; dsimp only; omega)) _) | (with_reducible refine Below.setCell ?_ (by first | omega | (simp only [zA, zS, zD, zN]; omega) | (dsimp only; omega) | (simp only [zA, zS, zD, zN]; dsimp only; omega)) _) | (with_reducible apply below_drewN)))).mono ?_
      rintro e w3 ⟨rfl, hb3⟩
      have hB3 : Below W0.heap.size W0 w3 := Below.trans (by repeat (first | with_reducible assumption | with_reducible exact Below.refl _ _ | with_reducible apply Below.drew | (with_reducible refine Below.alloc ?_ (by first | omega | (simp only [zA, zS, zD, zN]; omega) | (dsimp only; omega) | (simp only [zA, zS, zD, zN]; dsimp only; omega)) _) | (with_reducible refine Below.setCell ?_ (by first | omega | (simp only [zA, zS, zD, zN]; omega) | (dsimp only; omega) | (simp only [zA, zS, zD, zN]; dsimp only; omega)) _) | (with_reducible apply below_drewN))) (hb3.mono (by first | omega | (simp only [zA, zS, zD, zN]; omega) | (dsimp only; omega) | (simp only [zA, zS, zD, zN]; dsimp only; omega)))
      have hBw : Below w.heap.size w w3 := hB0.trans (hB3.mono hB0.size)
      clear hb3
      by_cases he : ej = 0
      · have HE2 := ST.out
        rw [if_pos he] at HE2
        subst he
        go_wp2_with fail
        exact ⟨⟨j + 1, by omega, by go_num, hB3, HE.out.trans HE2⟩, by simp [intOf]; omega⟩
      · have HE2 := ST.out
        rw [if_neg he] at HE2
        have hq : (ej == 0) = false := by simpa using he
        go_wp2_with fail
        go_ret
        exact ⟨by rw [HR.out, HE.out, HE2]; rfl, hBw⟩
    · have hj' : j = s.length := by have := HN.out; omega
      have p1 : ¬ (j : Int) < (sn : Int) := by omega
      have HE2 := HE.out
      rw [hj', List.drop_length] at HE2
      clear hj'
      go_wp2_with fail
      go_ret
      exact ⟨by rw [HR.out, HE2]; rfl, hBr⟩
end Go.Proofs.YtibmnifenfingaaGreatDoor
