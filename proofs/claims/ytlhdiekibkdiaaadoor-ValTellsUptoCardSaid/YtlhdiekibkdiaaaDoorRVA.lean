/- The walks through the reference's reader of values. -/
import Derived.Test.YtlhdiekibkdiaaaDoorPRA
import Derived.Test.YtlhdiekibkdiaaaDoorRNU
import Derived.Test.YtlhdiekibkdiaaaDoorRDR
namespace Go.Proofs.YtlhdiekibkdiaaaDoor
set_option maxRecDepth 100000
open Go.RowKit
set_option linter.unusedSimpArgs false
set_option linter.unusedVariables false
/-- What ValueAt tells. -/
def AtR (w : World) (s : List UInt8) (o : Option (VT × List UInt8)) (e : Ending) (w' : World) : Prop :=
  (match o with
    | none => e = .returned (.tuple #[.agg #[.bool false, .int .i64 0, .slice none 0 0], .int .i64 (-1)])
    | some x => ∃ v, ∃ p : Nat, e = .returned (.tuple #[v, .int .i64 p]) ∧ ValIn (fun b => w.heap.size ≤ b) w' v x.1 ∧ p ≤ s.length ∧ s.drop p = x.2) ∧ Below w.heap.size w w'
theorem byte_at {s : List UInt8} {a : Nat} {c : UInt8} {r : List UInt8} (h : s.drop a = c :: r) : a < s.length ∧ (∀ hh, (⟨s.toArray⟩ : ByteArray)[a]'hh = c) ∧ s.drop (a + 1) = r := by
  have hl : a < s.length := by
    rcases Nat.lt_or_ge a s.length with h' | h'
    · exact h'
    · rw [List.drop_eq_nil_of_le h'] at h; cases h
  rw [List.drop_eq_getElem_cons hl] at h
  obtain ⟨h1, h2⟩ := List.cons.inj h
  exact ⟨hl, fun hh => by rw [← h1]; rfl, h2⟩
theorem AtR.no {w w' : World} {s : List UInt8} {o : Option (VT × List UInt8)} (ho : o = none) (hb : Below w.heap.size w w') : AtR w s o (.returned (.tuple #[.agg #[.bool false, .int .i64 0, .slice none 0 0], .int .i64 (-1)])) w' := by subst ho; exact ⟨rfl, hb⟩
theorem AtR.yes {w w' : World} {s : List UInt8} {o : Option (VT × List UInt8)} {v : Value} {p : Nat} {t : VT} {rest : List UInt8} (ho : o = some (t, rest)) (hv : ValIn (fun b => w.heap.size ≤ b) w' v t) (hp : p ≤ s.length) (hr : s.drop p = rest) (hb : Below w.heap.size w w') : AtR w s o (.returned (.tuple #[v, .int .i64 p])) w' := by subst ho; exact ⟨⟨v, p, rfl, hv, hp, hr⟩, hb⟩
set_option maxHeartbeats 4000000 in
theorem rvat_zero (s : List UInt8) (a : Nat) (hs : s.length ≤ 1000000000) (ha : a ≤ s.length) (w : World) : Calls Tryd.prog 49 #[.string ⟨s.toArray⟩, .int .i64 a, .int .i64 0] w (AtR w s none) := by
  have X6 := Blk.new w #[.bool false, .int .i64 0, .slice none 0 0] 34
  have hB0 : Below w.heap.size w (w.alloc (.cells #[.bool false, .int .i64 0, .slice none 0 0] 34)) := by repeat (first | with_reducible assumption | with_reducible exact Below.refl _ _ | with_reducible apply Below.drew | (with_reducible refine Below.alloc ?_ (by first | omega | (simp only [zA, zS, zD, zN]; omega) | (dsimp only; omega) | (simp only [zA, zS, zD, zN]; dsimp only; omega)) _) | (with_reducible refine Below.setCell ?_ (by first | omega | (simp only [zA, zS, zD, zN]; omega) | (dsimp only; omega) | (simp only [zA, zS, zD, zN]; dsimp only; omega)) _) | (with_reducible apply below_drewN))
  go_enter Tryd.func49, Tryd.ntmps49
  go_wp2_with fail
  generalize w.alloc (.cells #[.bool false, .int .i64 0, .slice none 0 0] 34) = W0 at *
  have d0 := X6.cell 0
  have d1 := X6.cell 1
  have d2 := X6.cell 2
  simp only [List.getElem?_toArray, List.getElem?_cons_succ, List.getElem?_cons_zero] at d0 d1 d2
  refine bodyPost_ret (v := .tuple #[.agg #[.bool false, .int .i64 0, .slice none 0 0], .int .i64 (-1)]) (by simp [results, Tryd.results49, go_sem, d0, d1, d2]) rfl ?_
  exact ⟨rfl, hB0⟩
set_option maxHeartbeats 4000000 in
theorem rvat_end (s : List UInt8) (g : Nat) (hg : 1 ≤ g) (hg6 : g ≤ 6) (hs : s.length ≤ 1000000000) (w : World) : Calls Tryd.prog 49 #[.string ⟨s.toArray⟩, .int .i64 s.length, .int .i64 g] w (AtR w s none) := by
  have X6 := Blk.new w #[.bool false, .int .i64 0, .slice none 0 0] 34
  have hB0 : Below w.heap.size w (w.alloc (.cells #[.bool false, .int .i64 0, .slice none 0 0] 34)) := by repeat (first | with_reducible assumption | with_reducible exact Below.refl _ _ | with_reducible apply Below.drew | (with_reducible refine Below.alloc ?_ (by first | omega | (simp only [zA, zS, zD, zN]; omega) | (dsimp only; omega) | (simp only [zA, zS, zD, zN]; dsimp only; omega)) _) | (with_reducible refine Below.setCell ?_ (by first | omega | (simp only [zA, zS, zD, zN]; omega) | (dsimp only; omega) | (simp only [zA, zS, zD, zN]; dsimp only; omega)) _) | (with_reducible apply below_drewN))
  have p0 : ¬ (g : Int) < 1 := by omega
  go_enter Tryd.func49, Tryd.ntmps49
  go_wp2_with fail
  generalize w.alloc (.cells #[.bool false, .int .i64 0, .slice none 0 0] 34) = W0 at *
  have d0 := X6.cell 0
  have d1 := X6.cell 1
  have d2 := X6.cell 2
  simp only [List.getElem?_toArray, List.getElem?_cons_succ, List.getElem?_cons_zero] at d0 d1 d2
  refine bodyPost_ret (v := .tuple #[.agg #[.bool false, .int .i64 0, .slice none 0 0], .int .i64 (-1)]) (by simp [results, Tryd.results49, go_sem, d0, d1, d2]) rfl ?_
  exact ⟨rfl, hB0⟩
theorem stopN_step {s : List UInt8} {p : Nat} {c : UInt8} {r : List UInt8} (h : s.drop p = c :: r) (h1 : c ≠ 32) (h2 : c ≠ 41) : stopN (s.drop p) = stopN (s.drop (p + 1)) + 1 := by
  rw [h, (byte_at h).2.2, stopN, if_neg (by rintro (h | h); exact h1 h; exact h2 h)]
theorem ne40 {c : UInt8} (h : c ≠ 40) : ((c.toNat : Int) != 40) = true := by
  have : c.toNat ≠ 40 := fun e => h (UInt8.toNat_inj.1 e)
  simp; omega
theorem ne32 {c : UInt8} (h : c ≠ 32) : ((c.toNat : Int) != 32) = true := by
  have : c.toNat ≠ 32 := fun e => h (UInt8.toNat_inj.1 e)
  simp; omega
theorem ne41 {c : UInt8} (h : c ≠ 41) : ((c.toNat : Int) != 41) = true := by
  have : c.toNat ≠ 41 := fun e => h (UInt8.toNat_inj.1 e)
  simp; omega
set_option maxHeartbeats 8000000 in
theorem rvat_num (s : List UInt8) (a : Nat) (c : UInt8) (r : List UInt8) (hd : s.drop a = c :: r) (h40 : c ≠ 40) (g : Nat) (hg : 1 ≤ g) (hg6 : g ≤ 6) (hs : s.length ≤ 1000000000) (w : World) (tk tr : List UInt8) (o : Option (VT × List UInt8)) (HTK : Hid ((s.drop a).take (stopN (s.drop a)) = tk)) (HTR : Hid ((s.drop a).drop (stopN (s.drop a)) = tr)) (HO : Hid (o = match numS tk with | none => none | some n => some (.mk false n [], tr))) :
    Calls Tryd.prog 49 #[.string ⟨s.toArray⟩, .int .i64 a, .int .i64 g] w (AtR w s o) := by
  have X6 := Blk.new w #[.bool false, .int .i64 0, .slice none 0 0] 34
  have hB0 : Below w.heap.size w (w.alloc (.cells #[.bool false, .int .i64 0, .slice none 0 0] 34)) := by repeat (first | with_reducible assumption | with_reducible exact Below.refl _ _ | with_reducible apply Below.drew | (with_reducible refine Below.alloc ?_ (by first | omega | (simp only [zA, zS, zD, zN]; omega) | (dsimp only; omega) | (simp only [zA, zS, zD, zN]; dsimp only; omega)) _) | (with_reducible refine Below.setCell ?_ (by first | omega | (simp only [zA, zS, zD, zN]; omega) | (dsimp only; omega) | (simp only [zA, zS, zD, zN]; dsimp only; omega)) _) | (with_reducible apply below_drewN))
  have p0 : ¬ (g : Int) < 1 := by omega
  obtain ⟨hl, kb, _⟩ := byte_at hd
  have p1 : ¬ (s.length : Int) ≤ (a : Int) := by omega
  have k40 := ne40 h40
  clear hd
  go_enter Tryd.func49, Tryd.ntmps49
  go_wp2_with fail
  generalize w.alloc (.cells #[.bool false, .int .i64 0, .slice none 0 0] 34) = W0 at *
  clear kb k40
  go_loopw [8] (fun i wr => ∃ p : Nat, a ≤ p ∧ p ≤ s.length ∧ i = .int .i64 p ∧ wr = W0 ∧ Hid (stopN (s.drop a) = (p - a) + stopN (s.drop p))) (fun i _ => s.length - (intOf i).toNat)
  case atStart => exact ⟨a, by omega, by omega, rfl, rfl, by show _ = _; omega⟩
  case round =>
    obtain ⟨p, hap, hpl, rfl, rfl, HST⟩ := hrel
    have FIN : stopN (s.drop p) = 0 → stopN (s.drop a) = p - a := fun h => by have := HST.out; omega
    have CORE : stopN (s.drop a) = p - a → True := fun _ => trivial
    cases hdp : s.drop p with
    | nil =>
      have hpe : p = s.length := by have := congrArg List.length hdp; simp at this; omega
      have q0 : ¬ (p : Int) < (s.length : Int) := by omega
      have HK : Hid (stopN (s.drop a) = p - a) := FIN (by rw [hdp]; rfl)
      clear CORE hdp HST FIN
      subst hpe
      have HEX : Hid ((⟨s.toArray⟩ : ByteArray).extract a s.length = ⟨tk.toArray⟩) := by show _ = _; rw [← HTK.out, HK.out]; exact ba_ext s a s.length
      have HDR : Hid (s.drop s.length = tr) := by show _ = _; rw [← HTR.out, HK.out, List.drop_drop]; congr 1; omega
      have hkl : tk.length ≤ 1000000000 := by rw [← HTK.out, List.length_take, List.length_drop]; omega
      have hap2 : (a : Int) ≤ (s.length : Int) := by omega
      have hpl2 : (s.length : Int) ≤ (s.length : Int) := by omega
      clear HK
      go_wp2_with fail
      rw [HEX.out]
      refine (rnum_any tk hkl _).mono ?_
      rintro e w1 ⟨⟨n, b, rfl, hn, hy, hno⟩, hb⟩
      have X6 := X6.ext hb
      have hB1 := hB0.trans (hb.mono hB0.size)
      clear hb hB0
      cases b with
      | true =>
        have HNS : Hid (numS tk = some n) := by show _ = _; rw [hy rfl]; exact numS_itoa hn
        clear hy hno
        have z0 := X6.cell 0
        have z1 := X6.cell 1
        have z2 := X6.cell 2
        simp only [List.getElem?_toArray, List.getElem?_cons_succ, List.getElem?_cons_zero] at z0 z1 z2
        have u0 := X6.unfrozen 0
        have u1 := X6.unfrozen 1
        have u2 := X6.unfrozen 2
        go_wp2_with fail
        have XZ := ((X6.set 0 (.bool false)).set 1 (.int .i64 n)).set 2 (.slice none 0 0)
        simp only [List.setIfInBounds_toArray, List.set_cons_zero, List.set_cons_succ] at XZ
        have hBZ : Below w.heap.size w (((w1.setCell ⟨w.heap.size, 0, none⟩ (.bool false)).setCell ⟨w.heap.size, 1, none⟩ (.int .i64 n)).setCell ⟨w.heap.size, 2, none⟩ (.slice none 0 0)) := Below.setCell (Below.setCell (Below.setCell hB1 (Nat.le_refl _) _) (Nat.le_refl _) _) (Nat.le_refl _) _
        have d0 := XZ.cell 0
        have d1 := XZ.cell 1
        have d2 := XZ.cell 2
        simp only [List.getElem?_toArray, List.getElem?_cons_succ, List.getElem?_cons_zero] at d0 d1 d2
        refine bodyPost_ret (v := .tuple #[.agg #[.bool false, .int .i64 n, .slice none 0 0], .int .i64 s.length]) (by simp [results, Tryd.results49, go_sem, d0, d1, d2]) rfl ?_
        exact AtR.yes (by rw [HO.out, HNS.out]) (ValIn.leaf _ _ hn) hpl HDR.out hBZ
      | false =>
        have HNS : Hid (numS tk = none) := numS_none (fun m hm e => by cases (hno m hm e).1)
        clear hy hno
        have z0 := X6.cell 0
        have z1 := X6.cell 1
        have z2 := X6.cell 2
        simp only [List.getElem?_toArray, List.getElem?_cons_succ, List.getElem?_cons_zero] at z0 z1 z2
        have u0 := X6.unfrozen 0
        have u1 := X6.unfrozen 1
        have u2 := X6.unfrozen 2
        go_wp2_with fail
        have XZ := ((X6.set 0 (.bool false)).set 1 (.int .i64 0)).set 2 (.slice none 0 0)
        simp only [List.setIfInBounds_toArray, List.set_cons_zero, List.set_cons_succ] at XZ
        have hBZ : Below w.heap.size w (((w1.setCell ⟨w.heap.size, 0, none⟩ (.bool false)).setCell ⟨w.heap.size, 1, none⟩ (.int .i64 0)).setCell ⟨w.heap.size, 2, none⟩ (.slice none 0 0)) := Below.setCell (Below.setCell (Below.setCell hB1 (Nat.le_refl _) _) (Nat.le_refl _) _) (Nat.le_refl _) _
        have d0 := XZ.cell 0
        have d1 := XZ.cell 1
        have d2 := XZ.cell 2
        simp only [List.getElem?_toArray, List.getElem?_cons_succ, List.getElem?_cons_zero] at d0 d1 d2
        refine bodyPost_ret (v := .tuple #[.agg #[.bool false, .int .i64 0, .slice none 0 0], .int .i64 (-1)]) (by simp [results, Tryd.results49, go_sem, d0, d1, d2]) rfl ?_
        exact AtR.no (by rw [HO.out, HNS.out]) hBZ
    | cons x t =>
      obtain ⟨hlp, kb, hnx⟩ := byte_at hdp
      have q0 : (p : Int) < (s.length : Int) := by omega
      by_cases h32 : x = 32
      · have HK : Hid (stopN (s.drop a) = p - a) := FIN (by rw [hdp, h32]; rfl)
        subst h32
        clear CORE hdp HST FIN hnx
        have HEX : Hid ((⟨s.toArray⟩ : ByteArray).extract a p = ⟨tk.toArray⟩) := by show _ = _; rw [← HTK.out, HK.out]; exact ba_ext s a p
        have HDR : Hid (s.drop p = tr) := by show _ = _; rw [← HTR.out, HK.out, List.drop_drop]; congr 1; omega
        have hkl : tk.length ≤ 1000000000 := by rw [← HTK.out, List.length_take, List.length_drop]; omega
        have hap2 : (a : Int) ≤ (p : Int) := by omega
        have hpl2 : (p : Int) ≤ (s.length : Int) := by omega
        clear HK
        go_wp2_with fail
        rw [HEX.out]
        refine (rnum_any tk hkl _).mono ?_
        rintro e w1 ⟨⟨n, b, rfl, hn, hy, hno⟩, hb⟩
        have X6 := X6.ext hb
        have hB1 := hB0.trans (hb.mono hB0.size)
        clear hb hB0
        cases b with
        | true =>
          have HNS : Hid (numS tk = some n) := by show _ = _; rw [hy rfl]; exact numS_itoa hn
          clear hy hno
          have z0 := X6.cell 0
          have z1 := X6.cell 1
          have z2 := X6.cell 2
          simp only [List.getElem?_toArray, List.getElem?_cons_succ, List.getElem?_cons_zero] at z0 z1 z2
          have u0 := X6.unfrozen 0
          have u1 := X6.unfrozen 1
          have u2 := X6.unfrozen 2
          go_wp2_with fail
          have XZ := ((X6.set 0 (.bool false)).set 1 (.int .i64 n)).set 2 (.slice none 0 0)
          simp only [List.setIfInBounds_toArray, List.set_cons_zero, List.set_cons_succ] at XZ
          have hBZ : Below w.heap.size w (((w1.setCell ⟨w.heap.size, 0, none⟩ (.bool false)).setCell ⟨w.heap.size, 1, none⟩ (.int .i64 n)).setCell ⟨w.heap.size, 2, none⟩ (.slice none 0 0)) := Below.setCell (Below.setCell (Below.setCell hB1 (Nat.le_refl _) _) (Nat.le_refl _) _) (Nat.le_refl _) _
          have d0 := XZ.cell 0
          have d1 := XZ.cell 1
          have d2 := XZ.cell 2
          simp only [List.getElem?_toArray, List.getElem?_cons_succ, List.getElem?_cons_zero] at d0 d1 d2
          refine bodyPost_ret (v := .tuple #[.agg #[.bool false, .int .i64 n, .slice none 0 0], .int .i64 p]) (by simp [results, Tryd.results49, go_sem, d0, d1, d2]) rfl ?_
          exact AtR.yes (by rw [HO.out, HNS.out]) (ValIn.leaf _ _ hn) hpl HDR.out hBZ
        | false =>
          have HNS : Hid (numS tk = none) := numS_none (fun m hm e => by cases (hno m hm e).1)
          clear hy hno
          have z0 := X6.cell 0
          have z1 := X6.cell 1
          have z2 := X6.cell 2
          simp only [List.getElem?_toArray, List.getElem?_cons_succ, List.getElem?_cons_zero] at z0 z1 z2
          have u0 := X6.unfrozen 0
          have u1 := X6.unfrozen 1
          have u2 := X6.unfrozen 2
          go_wp2_with fail
          have XZ := ((X6.set 0 (.bool false)).set 1 (.int .i64 0)).set 2 (.slice none 0 0)
          simp only [List.setIfInBounds_toArray, List.set_cons_zero, List.set_cons_succ] at XZ
          have hBZ : Below w.heap.size w (((w1.setCell ⟨w.heap.size, 0, none⟩ (.bool false)).setCell ⟨w.heap.size, 1, none⟩ (.int .i64 0)).setCell ⟨w.heap.size, 2, none⟩ (.slice none 0 0)) := Below.setCell (Below.setCell (Below.setCell hB1 (Nat.le_refl _) _) (Nat.le_refl _) _) (Nat.le_refl _) _
          have d0 := XZ.cell 0
          have d1 := XZ.cell 1
          have d2 := XZ.cell 2
          simp only [List.getElem?_toArray, List.getElem?_cons_succ, List.getElem?_cons_zero] at d0 d1 d2
          refine bodyPost_ret (v := .tuple #[.agg #[.bool false, .int .i64 0, .slice none 0 0], .int .i64 (-1)]) (by simp [results, Tryd.results49, go_sem, d0, d1, d2]) rfl ?_
          exact AtR.no (by rw [HO.out, HNS.out]) hBZ
      by_cases h41 : x = 41
      · have HK : Hid (stopN (s.drop a) = p - a) := FIN (by rw [hdp, h41]; rfl)
        subst h41
        clear CORE hdp HST FIN hnx
        have HEX : Hid ((⟨s.toArray⟩ : ByteArray).extract a p = ⟨tk.toArray⟩) := by show _ = _; rw [← HTK.out, HK.out]; exact ba_ext s a p
        have HDR : Hid (s.drop p = tr) := by show _ = _; rw [← HTR.out, HK.out, List.drop_drop]; congr 1; omega
        have hkl : tk.length ≤ 1000000000 := by rw [← HTK.out, List.length_take, List.length_drop]; omega
        have hap2 : (a : Int) ≤ (p : Int) := by omega
        have hpl2 : (p : Int) ≤ (s.length : Int) := by omega
        clear HK
        go_wp2_with fail
        rw [HEX.out]
        refine (rnum_any tk hkl _).mono ?_
        rintro e w1 ⟨⟨n, b, rfl, hn, hy, hno⟩, hb⟩
        have X6 := X6.ext hb
        have hB1 := hB0.trans (hb.mono hB0.size)
        clear hb hB0
        cases b with
        | true =>
          have HNS : Hid (numS tk = some n) := by show _ = _; rw [hy rfl]; exact numS_itoa hn
          clear hy hno
          have z0 := X6.cell 0
          have z1 := X6.cell 1
          have z2 := X6.cell 2
          simp only [List.getElem?_toArray, List.getElem?_cons_succ, List.getElem?_cons_zero] at z0 z1 z2
          have u0 := X6.unfrozen 0
          have u1 := X6.unfrozen 1
          have u2 := X6.unfrozen 2
          go_wp2_with fail
          have XZ := ((X6.set 0 (.bool false)).set 1 (.int .i64 n)).set 2 (.slice none 0 0)
          simp only [List.setIfInBounds_toArray, List.set_cons_zero, List.set_cons_succ] at XZ
          have hBZ : Below w.heap.size w (((w1.setCell ⟨w.heap.size, 0, none⟩ (.bool false)).setCell ⟨w.heap.size, 1, none⟩ (.int .i64 n)).setCell ⟨w.heap.size, 2, none⟩ (.slice none 0 0)) := Below.setCell (Below.setCell (Below.setCell hB1 (Nat.le_refl _) _) (Nat.le_refl _) _) (Nat.le_refl _) _
          have d0 := XZ.cell 0
          have d1 := XZ.cell 1
          have d2 := XZ.cell 2
          simp only [List.getElem?_toArray, List.getElem?_cons_succ, List.getElem?_cons_zero] at d0 d1 d2
          refine bodyPost_ret (v := .tuple #[.agg #[.bool false, .int .i64 n, .slice none 0 0], .int .i64 p]) (by simp [results, Tryd.results49, go_sem, d0, d1, d2]) rfl ?_
          exact AtR.yes (by rw [HO.out, HNS.out]) (ValIn.leaf _ _ hn) hpl HDR.out hBZ
        | false =>
          have HNS : Hid (numS tk = none) := numS_none (fun m hm e => by cases (hno m hm e).1)
          clear hy hno
          have z0 := X6.cell 0
          have z1 := X6.cell 1
          have z2 := X6.cell 2
          simp only [List.getElem?_toArray, List.getElem?_cons_succ, List.getElem?_cons_zero] at z0 z1 z2
          have u0 := X6.unfrozen 0
          have u1 := X6.unfrozen 1
          have u2 := X6.unfrozen 2
          go_wp2_with fail
          have XZ := ((X6.set 0 (.bool false)).set 1 (.int .i64 0)).set 2 (.slice none 0 0)
          simp only [List.setIfInBounds_toArray, List.set_cons_zero, List.set_cons_succ] at XZ
          have hBZ : Below w.heap.size w (((w1.setCell ⟨w.heap.size, 0, none⟩ (.bool false)).setCell ⟨w.heap.size, 1, none⟩ (.int .i64 0)).setCell ⟨w.heap.size, 2, none⟩ (.slice none 0 0)) := Below.setCell (Below.setCell (Below.setCell hB1 (Nat.le_refl _) _) (Nat.le_refl _) _) (Nat.le_refl _) _
          have d0 := XZ.cell 0
          have d1 := XZ.cell 1
          have d2 := XZ.cell 2
          simp only [List.getElem?_toArray, List.getElem?_cons_succ, List.getElem?_cons_zero] at d0 d1 d2
          refine bodyPost_ret (v := .tuple #[.agg #[.bool false, .int .i64 0, .slice none 0 0], .int .i64 (-1)]) (by simp [results, Tryd.results49, go_sem, d0, d1, d2]) rfl ?_
          exact AtR.no (by rw [HO.out, HNS.out]) hBZ
      have k32 := ne32 h32
      have k41 := ne41 h41
      have HST2 : Hid (stopN (s.drop a) = (p + 1 - a) + stopN (s.drop (p + 1))) := by
        show _ = _
        have := HST.out
        rw [stopN_step hdp h32 h41] at this
        omega
      clear CORE FIN HST hdp hnx h32 h41
      go_wp2_with fail
      exact ⟨⟨p + 1, by omega, by omega, by go_num, trivial, HST2⟩, by simp [intOf]; omega⟩
end Go.Proofs.YtlhdiekibkdiaaaDoor
