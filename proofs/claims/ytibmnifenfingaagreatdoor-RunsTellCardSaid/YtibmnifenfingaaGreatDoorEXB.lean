/- The walks through what an expression tells: expr.told. The walk through expr.told, of every right expression. The walks through expr.Eval, and what recovers. The walks through expr.Fails, and what the statements on expressions build. -/
import Derived.Test.YtibmnifenfingaaGreatDoorPVC
import Derived.Test.YtibmnifenfingaaGreatDoorEXA
import Derived.Test.YtibmnifenfingaaGreatDoorPLY
import Derived.Lib.IfaceEq
import Derived.Lib.IfaceNeq
namespace Go.Proofs.YtibmnifenfingaaGreatDoor
set_option maxRecDepth 100000
open Go.RowKit
set_option linter.unusedSimpArgs false
set_option linter.unusedVariables false
/-- What is told: a number, or the panic of what has none. -/
def Tld (r : Option Int) (w : World) (e : Ending) (w' : World) : Prop := match r with
  | some n => e = .returned (.int .i64 n) ∧ Below w.heap.size w w'
  | none => e = .panicked [{ v := .iface 29 (.int .i64 6), recovered := false }] ∧ Below w.heap.size w w'
set_option maxHeartbeats 1000000 in
theorem sub_any (r : Option Int) (i : Nat) (bx bv bl off : Nat) (k n k2 n2 vn : Int) (vl : Bool) (sn scap t2 cap2 vk vcap : Nat) (ad2 vad : Option Addr) (w : World) (hi : i < sn) (hc1 : sn ≤ scap) (hc2 : scap ≤ 9223372036854775807)
    (hx : Blk w bx #[.int .i64 k, .int .i64 n, .slice (some ⟨bl, off, none⟩) sn scap] 27) (hv : Blk w bv #[.bool vl, .int .i64 vn, .slice vad vk vcap] 45)
    (c0 : w.cell? ⟨bl, off + i * 3, none⟩ = some (.int .i64 k2)) (c1 : w.cell? ⟨bl, off + i * 3 + 1, none⟩ = some (.int .i64 n2)) (c2 : w.cell? ⟨bl, off + i * 3 + 2, none⟩ = some (.slice ad2 t2 cap2))
    (H : Hid (∀ W, Below w.heap.size w W → Calls Tryz.prog 36 #[.agg #[.int .i64 k2, .int .i64 n2, .slice ad2 t2 cap2], .agg #[.bool vl, .int .i64 vn, .slice vad vk vcap]] W (Tld r W))) :
    Calls Tryz.prog 60 #[.int .i64 i, .pointer (some ⟨bx, 0, none⟩), .pointer (some ⟨bv, 0, none⟩)] w (Tld r w) := by
  have p0 : (0 : Int) ≤ (i : Int) := by omega
  have p1 : (i : Int) < (sn : Int) := by omega
  have d0 := hv.cell 0
  have d1 := hv.cell 1
  have d2 := hv.cell 2
  have d3 := hx.cell 2
  simp only [List.getElem?_toArray, List.getElem?_cons_succ, List.getElem?_cons_zero] at d0 d1 d2 d3
  clear hx hv hi
  go_enter Tryz.func60, Tryz.ntmps60
  go_wp2_with fail
  refine region_take (S := fun w' => w'.cell? ⟨bl, off + i * 3, none⟩ = some (.int .i64 k2) ∧ w'.cell? ⟨bl, off + i * 3 + 1, none⟩ = some (.int .i64 n2) ∧ w'.cell? ⟨bl, off + i * 3 + 2, none⟩ = some (.slice ad2 t2 cap2) ∧ w'.cell? ⟨bv, 0, none⟩ = some (.bool vl) ∧ w'.cell? ⟨bv, 1, none⟩ = some (.int .i64 vn) ∧ w'.cell? ⟨bv, 2, none⟩ = some (.slice vad vk vcap) ∧ w'.cell? ⟨bx, 2, none⟩ = some (.slice (some ⟨bl, off, none⟩) sn scap)) (n := 6) (takes := [0, 1, 2, 3, 4, 5]) (rest := [6, 7]) (hm := by kernel_rfl) (hB := by kernel_rfl) (hQ := fun c a d v w h => by cases d <;> exact h) (hS := ⟨c0, c1, c2, d0, d1, d2, d3⟩) ?_
  iterate 6
    rw [takeT_eq]
    simp only [List.getElem?_toArray, List.getElem?_cons_succ, List.getElem?_cons_zero]
    refine ⟨?_, .inl ⟨by rfl, ?_⟩, ?_⟩
    rotate_left
    · rintro w' ⟨c0, c1, c2, d0, d1, d2, d3⟩
      go_simp
      rfl
    simp only [Act.put, List.setIfInBounds_toArray, List.set_cons_zero, List.set_cons_succ]
  rw [wpTakeT]
  rw [seqT_eq]
  simp only [List.getElem?_toArray, List.getElem?_cons_succ, List.getElem?_cons_zero]
  go_wp2_with fail
  have hBd : Below w.heap.size w w.drew := Below.drew (Below.refl _ _)
  refine (H.out w.drew hBd).mono ?_
  rintro e w3 he
  cases r with
  | none =>
    obtain ⟨rfl, hb⟩ := he
    have fin : ([] : List Deferred) = [] ∧ Tld none w (.panicked [{ v := .iface 29 (.int .i64 6), recovered := false }]) w3 := ⟨rfl, rfl, hBd.trans hb⟩
    exact fin
  | some m =>
    obtain ⟨rfl, hb⟩ := he
    go_wp2_with fail
    refine And.intro (fun h => absurd h (by decide)) ?_
    rw [seqT_eq]
    simp only [List.getElem?_toArray, List.getElem?_cons_succ, List.getElem?_cons_zero]
    go_wp2_with fail
    refine And.intro (fun h => absurd h (by decide)) ?_
    rw [wpSeqT]
    go_wp2_with fail
    go_ret
    exact ⟨rfl, hBd.trans hb⟩
/-- What is told by two that were told. -/
def toldK (k : Int) (r0 r1 : Option Int) : Option Int := match r0 with
  | none => none
  | some a =>
    if k = 9 then some (truth (a == 0))
    else if (k = 10 ∧ a = 0) ∨ (k = 11 ∧ a ≠ 0) then some a
    else match r1 with
      | none => none
      | some b =>
        if k = 10 ∨ k = 11 then some b
        else if k = 5 then some (wrap64 (a + b))
        else if k = 7 then some (truth (decide (a < b)))
        else if k = 8 then some (truth (a == b))
        else if b = 0 then none
        else some (a.tmod b)
theorem told_k (k n : Int) (s : List ET) (v : VT) (h : 5 ≤ k) : ET.told (.mk k n s) v = toldK k (ET.toldI s 0 v) (ET.toldI s 1 v) := by
  simp only [ET.told]
  rw [if_neg (by omega), if_neg (by omega), if_neg (by omega), if_neg (by omega)]
  rfl
/-- A sub is told, wherever the two variables lie as they did. -/
def SubAt (w : World) (i : Int) (k n vn : Int) (vl : Bool) (sn scap vk vcap : Nat) (ad vad : Option Addr) (r : Option Int) : Prop :=
  ∀ W, Below w.heap.size w W → Blk W w.heap.size #[.int .i64 k, .int .i64 n, .slice ad sn scap] 27 → Blk W (w.heap.size + 1) #[.bool vl, .int .i64 vn, .slice vad vk vcap] 45 →
    Calls Tryz.prog 60 #[.int .i64 i, .pointer (some ⟨w.heap.size, 0, none⟩), .pointer (some ⟨w.heap.size + 1, 0, none⟩)] W (Tld r W)
def panics (w3 : World) : Ending := .panicked [{ v := .iface 29 (.int .i64 6), recovered := false }]
section
variable {k n vn : Int} {vl : Bool} {sn scap vk vcap : Nat} {ad vad : Option Addr} {r0 r1 : Option Int} {w : World}
theorem told_nine (H0 : Hid (SubAt w 0 9 n vn vl sn scap vk vcap ad vad r0)) :
    Calls Tryz.prog 36 #[.agg #[.int .i64 9, .int .i64 n, .slice ad sn scap], .agg #[.bool vl, .int .i64 vn, .slice vad vk vcap]] w (Tld (toldK 9 r0 r1) w) := by
  go_enter Tryz.func36, Tryz.ntmps36
  go_wp2_with fail
  have hB0 : Below w.heap.size w ((w.alloc (.cells #[.int .i64 9, .int .i64 n, .slice ad sn scap] 27)).alloc (.cells #[.bool vl, .int .i64 vn, .slice vad vk vcap] 45)) := by repeat (first | with_reducible assumption | with_reducible exact Below.refl _ _ | with_reducible apply Below.drew | (with_reducible refine Below.alloc ?_ (by first | omega | (simp only [zA, zS, zD, zN]; omega) | (dsimp only; omega) | (simp only [zA, zS, zD, zN]; dsimp only; omega)) _) | (with_reducible refine Below.setCell ?_ (by first | omega | (simp only [zA, zS, zD, zN]; omega) | (dsimp only; omega) | (simp only [zA, zS, zD, zN]; dsimp only; omega)) _) | (with_reducible apply below_drewN))
  refine (H0.out _ hB0 ((Blk.new _ _ _).alloc _) (by have := Blk.new (w.alloc (.cells #[.int .i64 9, .int .i64 n, .slice ad sn scap] 27)) #[.bool vl, .int .i64 vn, .slice vad vk vcap] 45; simpa using this)).mono ?_
  rintro e w1 he
  cases r0 with
  | none =>
    obtain ⟨rfl, hb⟩ := he
    have fin : ([] : List Deferred) = [] ∧ Tld none w (.panicked [{ v := .iface 29 (.int .i64 6), recovered := false }]) w1 := ⟨rfl, rfl, hB0.trans (hb.mono hB0.size)⟩
    exact fin
  | some a =>
    obtain ⟨rfl, hb⟩ := he
    have hB1 := hB0.trans (hb.mono hB0.size)
    clear hb hB0 H0
    go_wp2_with fail
    refine (truth_any _ _).mono ?_
    rintro e w2 ⟨rfl, rfl⟩
    go_wp2_with fail
    go_ret
    exact ⟨rfl, hB1⟩
set_option maxHeartbeats 1000000 in
theorem told_and (H0 : Hid (SubAt w 0 10 n vn vl sn scap vk vcap ad vad r0)) (H1 : Hid (SubAt w 1 10 n vn vl sn scap vk vcap ad vad r1)) :
    Calls Tryz.prog 36 #[.agg #[.int .i64 10, .int .i64 n, .slice ad sn scap], .agg #[.bool vl, .int .i64 vn, .slice vad vk vcap]] w (Tld (toldK 10 r0 r1) w) := by
  go_enter Tryz.func36, Tryz.ntmps36
  go_wp2_with fail
  have hB0 : Below w.heap.size w ((w.alloc (.cells #[.int .i64 10, .int .i64 n, .slice ad sn scap] 27)).alloc (.cells #[.bool vl, .int .i64 vn, .slice vad vk vcap] 45)) := by repeat (first | with_reducible assumption | with_reducible exact Below.refl _ _ | with_reducible apply Below.drew | (with_reducible refine Below.alloc ?_ (by first | omega | (simp only [zA, zS, zD, zN]; omega) | (dsimp only; omega) | (simp only [zA, zS, zD, zN]; dsimp only; omega)) _) | (with_reducible refine Below.setCell ?_ (by first | omega | (simp only [zA, zS, zD, zN]; omega) | (dsimp only; omega) | (simp only [zA, zS, zD, zN]; dsimp only; omega)) _) | (with_reducible apply below_drewN))
  have x1 : Blk ((w.alloc (.cells #[.int .i64 10, .int .i64 n, .slice ad sn scap] 27)).alloc (.cells #[.bool vl, .int .i64 vn, .slice vad vk vcap] 45)) w.heap.size #[.int .i64 10, .int .i64 n, .slice ad sn scap] 27 := (Blk.new _ _ _).alloc _
  have x2 : Blk ((w.alloc (.cells #[.int .i64 10, .int .i64 n, .slice ad sn scap] 27)).alloc (.cells #[.bool vl, .int .i64 vn, .slice vad vk vcap] 45)) (w.heap.size + 1) #[.bool vl, .int .i64 vn, .slice vad vk vcap] 45 := by have := Blk.new (w.alloc (.cells #[.int .i64 10, .int .i64 n, .slice ad sn scap] 27)) #[.bool vl, .int .i64 vn, .slice vad vk vcap] 45; simpa using this
  refine (H0.out _ hB0 x1 x2).mono ?_
  rintro e w1 he
  cases r0 with
  | none =>
    obtain ⟨rfl, hb⟩ := he
    have fin : ([] : List Deferred) = [] ∧ Tld none w (.panicked [{ v := .iface 29 (.int .i64 6), recovered := false }]) w1 := ⟨rfl, rfl, hB0.trans (hb.mono hB0.size)⟩
    exact fin
  | some a =>
    obtain ⟨rfl, hb⟩ := he
    have hB1 := hB0.trans (hb.mono hB0.size)
    have z1 := x1.ext hb
    have z2 := x2.ext hb
    have f0 := z1.cell 0
    have f1 := z1.cell 1
    have f2 := z1.cell 2
    simp only [List.getElem?_toArray, List.getElem?_cons_succ, List.getElem?_cons_zero] at f0 f1 f2
    clear hb hB0 H0 x1 x2
    by_cases ha : a = 0
    · have HX : Hid (toldK 10 (some a) r1 = some a) := by show _ = _; simp [toldK, ha]
      have q1 : (a == 0) = true := by simpa using ha
      clear ha
      go_wp2_with fail
      go_ret
      refine (show Tld (toldK 10 (some a) r1) w _ _ from ?_)
      rw [HX.out]
      exact ⟨rfl, hB1⟩
    · have HX : Hid (toldK 10 (some a) r1 = r1) := by show _ = _; cases r1 <;> simp [toldK, ha]
      have q1 : (a == 0) = false := by simpa using ha
      clear ha
      go_wp2_with fail
      refine (H1.out _ hB1 z1 z2).mono ?_
      rintro e w2 he
      cases r1 with
      | none =>
        obtain ⟨rfl, hb⟩ := he
        have fin : ([] : List Deferred) = [] ∧ Tld (toldK 10 (some a) none) w (.panicked [{ v := .iface 29 (.int .i64 6), recovered := false }]) w2 := ⟨rfl, by rw [HX.out]; exact ⟨rfl, hB1.trans (hb.mono hB1.size)⟩⟩
        exact fin
      | some b =>
        obtain ⟨rfl, hb⟩ := he
        have hB2 := hB1.trans (hb.mono hB1.size)
        have z3 := z1.ext hb
        clear hb H1
        go_wp2_with fail
        go_ret
        refine (show Tld (toldK 10 (some a) (some b)) w _ _ from ?_)
        rw [HX.out]
        exact ⟨rfl, hB2⟩
set_option maxHeartbeats 1000000 in
theorem told_or (H0 : Hid (SubAt w 0 11 n vn vl sn scap vk vcap ad vad r0)) (H1 : Hid (SubAt w 1 11 n vn vl sn scap vk vcap ad vad r1)) :
    Calls Tryz.prog 36 #[.agg #[.int .i64 11, .int .i64 n, .slice ad sn scap], .agg #[.bool vl, .int .i64 vn, .slice vad vk vcap]] w (Tld (toldK 11 r0 r1) w) := by
  go_enter Tryz.func36, Tryz.ntmps36
  go_wp2_with fail
  have hB0 : Below w.heap.size w ((w.alloc (.cells #[.int .i64 11, .int .i64 n, .slice ad sn scap] 27)).alloc (.cells #[.bool vl, .int .i64 vn, .slice vad vk vcap] 45)) := by repeat (first | with_reducible assumption | with_reducible exact Below.refl _ _ | with_reducible apply Below.drew | (with_reducible refine Below.alloc ?_ (by first | omega | (simp only [zA, zS, zD, zN]; omega) | (dsimp only; omega) | (simp only [zA, zS, zD, zN]; dsimp only; omega)) _) | (with_reducible refine Below.setCell ?_ (by first | omega | (simp only [zA, zS, zD, zN]; omega) | (dsimp only; omega) | (simp only [zA, zS, zD, zN]; dsimp only; omega)) _) | (with_reducible apply below_drewN))
  have x1 : Blk ((w.alloc (.cells #[.int .i64 11, .int .i64 n, .slice ad sn scap] 27)).alloc (.cells #[.bool vl, .int .i64 vn, .slice vad vk vcap] 45)) w.heap.size #[.int .i64 11, .int .i64 n, .slice ad sn scap] 27 := (Blk.new _ _ _).alloc _
  have x2 : Blk ((w.alloc (.cells #[.int .i64 11, .int .i64 n, .slice ad sn scap] 27)).alloc (.cells #[.bool vl, .int .i64 vn, .slice vad vk vcap] 45)) (w.heap.size + 1) #[.bool vl, .int .i64 vn, .slice vad vk vcap] 45 := by have := Blk.new (w.alloc (.cells #[.int .i64 11, .int .i64 n, .slice ad sn scap] 27)) #[.bool vl, .int .i64 vn, .slice vad vk vcap] 45; simpa using this
  refine (H0.out _ hB0 x1 x2).mono ?_
  rintro e w1 he
  cases r0 with
  | none =>
    obtain ⟨rfl, hb⟩ := he
    have fin : ([] : List Deferred) = [] ∧ Tld none w (.panicked [{ v := .iface 29 (.int .i64 6), recovered := false }]) w1 := ⟨rfl, rfl, hB0.trans (hb.mono hB0.size)⟩
    exact fin
  | some a =>
    obtain ⟨rfl, hb⟩ := he
    have hB1 := hB0.trans (hb.mono hB0.size)
    have z1 := x1.ext hb
    have z2 := x2.ext hb
    have f0 := z1.cell 0
    have f1 := z1.cell 1
    have f2 := z1.cell 2
    simp only [List.getElem?_toArray, List.getElem?_cons_succ, List.getElem?_cons_zero] at f0 f1 f2
    clear hb hB0 H0 x1 x2
    by_cases ha : a ≠ 0
    · have HX : Hid (toldK 11 (some a) r1 = some a) := by show _ = _; simp [toldK, ha]
      have q1 : (a != 0) = true := by simpa using ha
      clear ha
      go_wp2_with fail
      go_ret
      refine (show Tld (toldK 11 (some a) r1) w _ _ from ?_)
      rw [HX.out]
      exact ⟨rfl, hB1⟩
    · have HX : Hid (toldK 11 (some a) r1 = r1) := by show _ = _; cases r1 <;> simp [toldK, ha]
      have q1 : (a != 0) = false := by simpa using ha
      clear ha
      go_wp2_with fail
      refine (H1.out _ hB1 z1 z2).mono ?_
      rintro e w2 he
      cases r1 with
      | none =>
        obtain ⟨rfl, hb⟩ := he
        have fin : ([] : List Deferred) = [] ∧ Tld (toldK 11 (some a) none) w (.panicked [{ v := .iface 29 (.int .i64 6), recovered := false }]) w2 := ⟨rfl, by rw [HX.out]; exact ⟨rfl, hB1.trans (hb.mono hB1.size)⟩⟩
        exact fin
      | some b =>
        obtain ⟨rfl, hb⟩ := he
        have hB2 := hB1.trans (hb.mono hB1.size)
        have z3 := z1.ext hb
        clear hb H1
        go_wp2_with fail
        go_ret
        refine (show Tld (toldK 11 (some a) (some b)) w _ _ from ?_)
        rw [HX.out]
        exact ⟨rfl, hB2⟩
set_option maxHeartbeats 1000000 in
theorem told_add (H0 : Hid (SubAt w 0 5 n vn vl sn scap vk vcap ad vad r0)) (H1 : Hid (SubAt w 1 5 n vn vl sn scap vk vcap ad vad r1)) :
    Calls Tryz.prog 36 #[.agg #[.int .i64 5, .int .i64 n, .slice ad sn scap], .agg #[.bool vl, .int .i64 vn, .slice vad vk vcap]] w (Tld (toldK 5 r0 r1) w) := by
  go_enter Tryz.func36, Tryz.ntmps36
  go_wp2_with fail
  have hB0 : Below w.heap.size w ((w.alloc (.cells #[.int .i64 5, .int .i64 n, .slice ad sn scap] 27)).alloc (.cells #[.bool vl, .int .i64 vn, .slice vad vk vcap] 45)) := by repeat (first | with_reducible assumption | with_reducible exact Below.refl _ _ | with_reducible apply Below.drew | (with_reducible refine Below.alloc ?_ (by first | omega | (simp only [zA, zS, zD, zN]; omega) | (dsimp only; omega) | (simp only [zA, zS, zD, zN]; dsimp only; omega)) _) | (with_reducible refine Below.setCell ?_ (by first | omega | (simp only [zA, zS, zD, zN]; omega) | (dsimp only; omega) | (simp only [zA, zS, zD, zN]; dsimp only; omega)) _) | (with_reducible apply below_drewN))
  have x1 : Blk ((w.alloc (.cells #[.int .i64 5, .int .i64 n, .slice ad sn scap] 27)).alloc (.cells #[.bool vl, .int .i64 vn, .slice vad vk vcap] 45)) w.heap.size #[.int .i64 5, .int .i64 n, .slice ad sn scap] 27 := (Blk.new _ _ _).alloc _
  have x2 : Blk ((w.alloc (.cells #[.int .i64 5, .int .i64 n, .slice ad sn scap] 27)).alloc (.cells #[.bool vl, .int .i64 vn, .slice vad vk vcap] 45)) (w.heap.size + 1) #[.bool vl, .int .i64 vn, .slice vad vk vcap] 45 := by have := Blk.new (w.alloc (.cells #[.int .i64 5, .int .i64 n, .slice ad sn scap] 27)) #[.bool vl, .int .i64 vn, .slice vad vk vcap] 45; simpa using this
  refine (H0.out _ hB0 x1 x2).mono ?_
  rintro e w1 he
  cases r0 with
  | none =>
    obtain ⟨rfl, hb⟩ := he
    have fin : ([] : List Deferred) = [] ∧ Tld none w (.panicked [{ v := .iface 29 (.int .i64 6), recovered := false }]) w1 := ⟨rfl, rfl, hB0.trans (hb.mono hB0.size)⟩
    exact fin
  | some a =>
    obtain ⟨rfl, hb⟩ := he
    have hB1 := hB0.trans (hb.mono hB0.size)
    have z1 := x1.ext hb
    have z2 := x2.ext hb
    have f0 := z1.cell 0
    have f1 := z1.cell 1
    have f2 := z1.cell 2
    simp only [List.getElem?_toArray, List.getElem?_cons_succ, List.getElem?_cons_zero] at f0 f1 f2
    clear hb hB0 H0 x1 x2
    have HX0 : Hid (toldK 5 (some a) none = none) := by show _ = _; simp [toldK]
    have HXS : Hid (∀ b, toldK 5 (some a) (some b) = some (wrap64 (a + b))) := by show ∀ b, _ = _; intro b; simp [toldK]
    go_wp2_with fail
    refine (H1.out _ hB1 z1 z2).mono ?_
    rintro e w2 he
    cases r1 with
    | none =>
      obtain ⟨rfl, hb⟩ := he
      have fin : ([] : List Deferred) = [] ∧ Tld (toldK 5 (some a) none) w (.panicked [{ v := .iface 29 (.int .i64 6), recovered := false }]) w2 := ⟨rfl, by rw [HX0.out]; exact ⟨rfl, hB1.trans (hb.mono hB1.size)⟩⟩
      exact fin
    | some b =>
      obtain ⟨rfl, hb⟩ := he
      have hB2 := hB1.trans (hb.mono hB1.size)
      have z3 := z1.ext hb
      clear f0 f1 f2
      have f0 := z3.cell 0
      have f1 := z3.cell 1
      have f2 := z3.cell 2
      simp only [List.getElem?_toArray, List.getElem?_cons_succ, List.getElem?_cons_zero] at f0 f1 f2
      clear hb H1
      have HX := Lib.hid (HXS.out b)
      clear HXS HX0
      go_wp2_with fail
      go_ret
      refine (show Tld (toldK 5 (some a) (some b)) w _ _ from ?_)
      rw [HX.out]
      exact ⟨rfl, hB2⟩
set_option maxHeartbeats 1000000 in
theorem told_rem (H0 : Hid (SubAt w 0 6 n vn vl sn scap vk vcap ad vad r0)) (H1 : Hid (SubAt w 1 6 n vn vl sn scap vk vcap ad vad r1)) :
    Calls Tryz.prog 36 #[.agg #[.int .i64 6, .int .i64 n, .slice ad sn scap], .agg #[.bool vl, .int .i64 vn, .slice vad vk vcap]] w (Tld (toldK 6 r0 r1) w) := by
  go_enter Tryz.func36, Tryz.ntmps36
  go_wp2_with fail
  have hB0 : Below w.heap.size w ((w.alloc (.cells #[.int .i64 6, .int .i64 n, .slice ad sn scap] 27)).alloc (.cells #[.bool vl, .int .i64 vn, .slice vad vk vcap] 45)) := by repeat (first | with_reducible assumption | with_reducible exact Below.refl _ _ | with_reducible apply Below.drew | (with_reducible refine Below.alloc ?_ (by first | omega | (simp only [zA, zS, zD, zN]; omega) | (dsimp only; omega) | (simp only [zA, zS, zD, zN]; dsimp only; omega)) _) | (with_reducible refine Below.setCell ?_ (by first | omega | (simp only [zA, zS, zD, zN]; omega) | (dsimp only; omega) | (simp only [zA, zS, zD, zN]; dsimp only; omega)) _) | (with_reducible apply below_drewN))
  have x1 : Blk ((w.alloc (.cells #[.int .i64 6, .int .i64 n, .slice ad sn scap] 27)).alloc (.cells #[.bool vl, .int .i64 vn, .slice vad vk vcap] 45)) w.heap.size #[.int .i64 6, .int .i64 n, .slice ad sn scap] 27 := (Blk.new _ _ _).alloc _
  have x2 : Blk ((w.alloc (.cells #[.int .i64 6, .int .i64 n, .slice ad sn scap] 27)).alloc (.cells #[.bool vl, .int .i64 vn, .slice vad vk vcap] 45)) (w.heap.size + 1) #[.bool vl, .int .i64 vn, .slice vad vk vcap] 45 := by have := Blk.new (w.alloc (.cells #[.int .i64 6, .int .i64 n, .slice ad sn scap] 27)) #[.bool vl, .int .i64 vn, .slice vad vk vcap] 45; simpa using this
  refine (H0.out _ hB0 x1 x2).mono ?_
  rintro e w1 he
  cases r0 with
  | none =>
    obtain ⟨rfl, hb⟩ := he
    have fin : ([] : List Deferred) = [] ∧ Tld none w (.panicked [{ v := .iface 29 (.int .i64 6), recovered := false }]) w1 := ⟨rfl, rfl, hB0.trans (hb.mono hB0.size)⟩
    exact fin
  | some a =>
    obtain ⟨rfl, hb⟩ := he
    have hB1 := hB0.trans (hb.mono hB0.size)
    have z1 := x1.ext hb
    have z2 := x2.ext hb
    have f0 := z1.cell 0
    have f1 := z1.cell 1
    have f2 := z1.cell 2
    simp only [List.getElem?_toArray, List.getElem?_cons_succ, List.getElem?_cons_zero] at f0 f1 f2
    clear hb hB0 H0 x1 x2
    have HX0 : Hid (toldK 6 (some a) none = none) := by show _ = _; simp [toldK]
    have HXS : Hid (∀ b, toldK 6 (some a) (some b) = if b = 0 then none else some (a.tmod b)) := by show ∀ b, _ = _; intro b; simp [toldK]
    go_wp2_with fail
    refine (H1.out _ hB1 z1 z2).mono ?_
    rintro e w2 he
    cases r1 with
    | none =>
      obtain ⟨rfl, hb⟩ := he
      have fin : ([] : List Deferred) = [] ∧ Tld (toldK 6 (some a) none) w (.panicked [{ v := .iface 29 (.int .i64 6), recovered := false }]) w2 := ⟨rfl, by rw [HX0.out]; exact ⟨rfl, hB1.trans (hb.mono hB1.size)⟩⟩
      exact fin
    | some b =>
      obtain ⟨rfl, hb⟩ := he
      have hB2 := hB1.trans (hb.mono hB1.size)
      have z3 := z1.ext hb
      clear f0 f1 f2
      have f0 := z3.cell 0
      have f1 := z3.cell 1
      have f2 := z3.cell 2
      simp only [List.getElem?_toArray, List.getElem?_cons_succ, List.getElem?_cons_zero] at f0 f1 f2
      clear hb H1
      have HX := Lib.hid (HXS.out b)
      clear HXS HX0
      by_cases hb0 : b = 0
      · have HY : Hid (toldK 6 (some a) (some b) = none) := HX.out.trans (if_pos hb0)
        have q1 : (b == 0) = true := by simpa using hb0
        clear hb0 HX
        go_wp2_with fail
        refine ⟨rfl, (show Tld (toldK 6 (some a) (some b)) w _ _ from ?_)⟩
        rw [HY.out]
        exact ⟨rfl, hB2⟩
      · have HY : Hid (toldK 6 (some a) (some b) = some (a.tmod b)) := HX.out.trans (if_neg hb0)
        have q1 : (b == 0) = false := by simpa using hb0
        clear HX
        go_wp2_with fail
        go_ret
        refine (show Tld (toldK 6 (some a) (some b)) w _ _ from ?_)
        rw [HY.out]
        exact ⟨rfl, hB2⟩
set_option maxHeartbeats 1000000 in
theorem told_less (H0 : Hid (SubAt w 0 7 n vn vl sn scap vk vcap ad vad r0)) (H1 : Hid (SubAt w 1 7 n vn vl sn scap vk vcap ad vad r1)) :
    Calls Tryz.prog 36 #[.agg #[.int .i64 7, .int .i64 n, .slice ad sn scap], .agg #[.bool vl, .int .i64 vn, .slice vad vk vcap]] w (Tld (toldK 7 r0 r1) w) := by
  go_enter Tryz.func36, Tryz.ntmps36
  go_wp2_with fail
  have hB0 : Below w.heap.size w ((w.alloc (.cells #[.int .i64 7, .int .i64 n, .slice ad sn scap] 27)).alloc (.cells #[.bool vl, .int .i64 vn, .slice vad vk vcap] 45)) := by repeat (first | with_reducible assumption | with_reducible exact Below.refl _ _ | with_reducible apply Below.drew | (with_reducible refine Below.alloc ?_ (by first | omega | (simp only [zA, zS, zD, zN]; omega) | (dsimp only; omega) | (simp only [zA, zS, zD, zN]; dsimp only; omega)) _) | (with_reducible refine Below.setCell ?_ (by first | omega | (simp only [zA, zS, zD, zN]; omega) | (dsimp only; omega) | (simp only [zA, zS, zD, zN]; dsimp only; omega)) _) | (with_reducible apply below_drewN))
  have x1 : Blk ((w.alloc (.cells #[.int .i64 7, .int .i64 n, .slice ad sn scap] 27)).alloc (.cells #[.bool vl, .int .i64 vn, .slice vad vk vcap] 45)) w.heap.size #[.int .i64 7, .int .i64 n, .slice ad sn scap] 27 := (Blk.new _ _ _).alloc _
  have x2 : Blk ((w.alloc (.cells #[.int .i64 7, .int .i64 n, .slice ad sn scap] 27)).alloc (.cells #[.bool vl, .int .i64 vn, .slice vad vk vcap] 45)) (w.heap.size + 1) #[.bool vl, .int .i64 vn, .slice vad vk vcap] 45 := by have := Blk.new (w.alloc (.cells #[.int .i64 7, .int .i64 n, .slice ad sn scap] 27)) #[.bool vl, .int .i64 vn, .slice vad vk vcap] 45; simpa using this
  refine (H0.out _ hB0 x1 x2).mono ?_
  rintro e w1 he
  cases r0 with
  | none =>
    obtain ⟨rfl, hb⟩ := he
    have fin : ([] : List Deferred) = [] ∧ Tld none w (.panicked [{ v := .iface 29 (.int .i64 6), recovered := false }]) w1 := ⟨rfl, rfl, hB0.trans (hb.mono hB0.size)⟩
    exact fin
  | some a =>
    obtain ⟨rfl, hb⟩ := he
    have hB1 := hB0.trans (hb.mono hB0.size)
    have z1 := x1.ext hb
    have z2 := x2.ext hb
    have f0 := z1.cell 0
    have f1 := z1.cell 1
    have f2 := z1.cell 2
    simp only [List.getElem?_toArray, List.getElem?_cons_succ, List.getElem?_cons_zero] at f0 f1 f2
    clear hb hB0 H0 x1 x2
    have HX0 : Hid (toldK 7 (some a) none = none) := by show _ = _; simp [toldK]
    have HXS : Hid (∀ b, toldK 7 (some a) (some b) = some (truth (decide (a < b)))) := by show ∀ b, _ = _; intro b; simp [toldK]
    go_wp2_with fail
    refine (H1.out _ hB1 z1 z2).mono ?_
    rintro e w2 he
    cases r1 with
    | none =>
      obtain ⟨rfl, hb⟩ := he
      have fin : ([] : List Deferred) = [] ∧ Tld (toldK 7 (some a) none) w (.panicked [{ v := .iface 29 (.int .i64 6), recovered := false }]) w2 := ⟨rfl, by rw [HX0.out]; exact ⟨rfl, hB1.trans (hb.mono hB1.size)⟩⟩
      exact fin
    | some b =>
      obtain ⟨rfl, hb⟩ := he
      have hB2 := hB1.trans (hb.mono hB1.size)
      have z3 := z1.ext hb
      clear f0 f1 f2
      have f0 := z3.cell 0
      have f1 := z3.cell 1
      have f2 := z3.cell 2
      simp only [List.getElem?_toArray, List.getElem?_cons_succ, List.getElem?_cons_zero] at f0 f1 f2
      clear hb H1
      have HX := Lib.hid (HXS.out b)
      clear HXS HX0
      go_wp2_with fail
      refine (truth_any _ _).mono ?_
      rintro e w4 ⟨rfl, rfl⟩
      go_wp2_with fail
      go_ret
      refine (show Tld (toldK 7 (some a) (some b)) w _ _ from ?_)
      rw [HX.out]
      exact ⟨rfl, hB2⟩
set_option maxHeartbeats 1000000 in
theorem told_same (H0 : Hid (SubAt w 0 8 n vn vl sn scap vk vcap ad vad r0)) (H1 : Hid (SubAt w 1 8 n vn vl sn scap vk vcap ad vad r1)) :
    Calls Tryz.prog 36 #[.agg #[.int .i64 8, .int .i64 n, .slice ad sn scap], .agg #[.bool vl, .int .i64 vn, .slice vad vk vcap]] w (Tld (toldK 8 r0 r1) w) := by
  go_enter Tryz.func36, Tryz.ntmps36
  go_wp2_with fail
  have hB0 : Below w.heap.size w ((w.alloc (.cells #[.int .i64 8, .int .i64 n, .slice ad sn scap] 27)).alloc (.cells #[.bool vl, .int .i64 vn, .slice vad vk vcap] 45)) := by repeat (first | with_reducible assumption | with_reducible exact Below.refl _ _ | with_reducible apply Below.drew | (with_reducible refine Below.alloc ?_ (by first | omega | (simp only [zA, zS, zD, zN]; omega) | (dsimp only; omega) | (simp only [zA, zS, zD, zN]; dsimp only; omega)) _) | (with_reducible refine Below.setCell ?_ (by first | omega | (simp only [zA, zS, zD, zN]; omega) | (dsimp only; omega) | (simp only [zA, zS, zD, zN]; dsimp only; omega)) _) | (with_reducible apply below_drewN))
  have x1 : Blk ((w.alloc (.cells #[.int .i64 8, .int .i64 n, .slice ad sn scap] 27)).alloc (.cells #[.bool vl, .int .i64 vn, .slice vad vk vcap] 45)) w.heap.size #[.int .i64 8, .int .i64 n, .slice ad sn scap] 27 := (Blk.new _ _ _).alloc _
  have x2 : Blk ((w.alloc (.cells #[.int .i64 8, .int .i64 n, .slice ad sn scap] 27)).alloc (.cells #[.bool vl, .int .i64 vn, .slice vad vk vcap] 45)) (w.heap.size + 1) #[.bool vl, .int .i64 vn, .slice vad vk vcap] 45 := by have := Blk.new (w.alloc (.cells #[.int .i64 8, .int .i64 n, .slice ad sn scap] 27)) #[.bool vl, .int .i64 vn, .slice vad vk vcap] 45; simpa using this
  refine (H0.out _ hB0 x1 x2).mono ?_
  rintro e w1 he
  cases r0 with
  | none =>
    obtain ⟨rfl, hb⟩ := he
    have fin : ([] : List Deferred) = [] ∧ Tld none w (.panicked [{ v := .iface 29 (.int .i64 6), recovered := false }]) w1 := ⟨rfl, rfl, hB0.trans (hb.mono hB0.size)⟩
    exact fin
  | some a =>
    obtain ⟨rfl, hb⟩ := he
    have hB1 := hB0.trans (hb.mono hB0.size)
    have z1 := x1.ext hb
    have z2 := x2.ext hb
    have f0 := z1.cell 0
    have f1 := z1.cell 1
    have f2 := z1.cell 2
    simp only [List.getElem?_toArray, List.getElem?_cons_succ, List.getElem?_cons_zero] at f0 f1 f2
    clear hb hB0 H0 x1 x2
    have HX0 : Hid (toldK 8 (some a) none = none) := by show _ = _; simp [toldK]
    have HXS : Hid (∀ b, toldK 8 (some a) (some b) = some (truth (a == b))) := by show ∀ b, _ = _; intro b; simp [toldK]
    go_wp2_with fail
    refine (H1.out _ hB1 z1 z2).mono ?_
    rintro e w2 he
    cases r1 with
    | none =>
      obtain ⟨rfl, hb⟩ := he
      have fin : ([] : List Deferred) = [] ∧ Tld (toldK 8 (some a) none) w (.panicked [{ v := .iface 29 (.int .i64 6), recovered := false }]) w2 := ⟨rfl, by rw [HX0.out]; exact ⟨rfl, hB1.trans (hb.mono hB1.size)⟩⟩
      exact fin
    | some b =>
      obtain ⟨rfl, hb⟩ := he
      have hB2 := hB1.trans (hb.mono hB1.size)
      have z3 := z1.ext hb
      clear f0 f1 f2
      have f0 := z3.cell 0
      have f1 := z3.cell 1
      have f2 := z3.cell 2
      simp only [List.getElem?_toArray, List.getElem?_cons_succ, List.getElem?_cons_zero] at f0 f1 f2
      clear hb H1
      have HX := Lib.hid (HXS.out b)
      clear HXS HX0
      go_wp2_with fail
      refine (truth_any _ _).mono ?_
      rintro e w4 ⟨rfl, rfl⟩
      go_wp2_with fail
      go_ret
      refine (show Tld (toldK 8 (some a) (some b)) w _ _ from ?_)
      rw [HX.out]
      exact ⟨rfl, hB2⟩
end
end Go.Proofs.YtibmnifenfingaaGreatDoor
namespace Go.Proofs.YtibmnifenfingaaGreatDoor
set_option maxRecDepth 100000
open Go.RowKit
set_option linter.unusedSimpArgs false
set_option linter.unusedVariables false
section
variable {n vn : Int} {vl : Bool} {sn scap vk vcap : Nat} {ad vad : Option Addr} {w : World} {r : Option Int}
theorem told_lit : Calls Tryz.prog 36 #[.agg #[.int .i64 1, .int .i64 n, .slice ad sn scap], .agg #[.bool vl, .int .i64 vn, .slice vad vk vcap]] w (Tld (some n) w) := by
  go_enter Tryz.func36, Tryz.ntmps36
  go_wp2_with fail
  go_ret
  exact ⟨rfl, by repeat (first | with_reducible assumption | with_reducible exact Below.refl _ _ | with_reducible apply Below.drew | (with_reducible refine Below.alloc ?_ (by first | omega | (simp only [zA, zS, zD, zN]; omega) | (dsimp only; omega) | (simp only [zA, zS, zD, zN]; dsimp only; omega)) _) | (with_reducible refine Below.setCell ?_ (by first | omega | (simp only [zA, zS, zD, zN]; omega) | (dsimp only; omega) | (simp only [zA, zS, zD, zN]; dsimp only; omega)) _) | (with_reducible apply below_drewN))⟩
theorem told_len : Calls Tryz.prog 36 #[.agg #[.int .i64 4, .int .i64 n, .slice ad sn scap], .agg #[.bool vl, .int .i64 vn, .slice vad vk vcap]] w (Tld (some (vk : Int)) w) := by
  go_enter Tryz.func36, Tryz.ntmps36
  go_wp2_with fail
  go_ret
  exact ⟨rfl, by repeat (first | with_reducible assumption | with_reducible exact Below.refl _ _ | with_reducible apply Below.drew | (with_reducible refine Below.alloc ?_ (by first | omega | (simp only [zA, zS, zD, zN]; omega) | (dsimp only; omega) | (simp only [zA, zS, zD, zN]; dsimp only; omega)) _) | (with_reducible refine Below.setCell ?_ (by first | omega | (simp only [zA, zS, zD, zN]; omega) | (dsimp only; omega) | (simp only [zA, zS, zD, zN]; dsimp only; omega)) _) | (with_reducible apply below_drewN))⟩
set_option maxHeartbeats 1000000 in
theorem told_sum {t : VT} (hv : ValAt w (.agg #[.bool vl, .int .i64 vn, .slice vad vk vcap]) t) : Calls Tryz.prog 36 #[.agg #[.int .i64 2, .int .i64 n, .slice ad sn scap], .agg #[.bool vl, .int .i64 vn, .slice vad vk vcap]] w (Tld (some (sumW 0 t.nums)) w) := by
  have HV := Lib.hid (fun W hb hJ => numbers_any (vis_sum (w.heap.size + 1 + 1) (w.heap.size + 1 + 1) (Nat.le_refl _)) w (by omega) t _ 0 W hv hb hJ)
  have HF : Hid (t.nums.foldl (fun n k => wrap64 (n + k)) 0 = sumW 0 t.nums) := sumW_fold _ _
  rw [HF.out] at HV
  clear HF hv
  go_enter Tryz.func36, Tryz.ntmps36
  go_wp2_with fail
  refine (HV.out _ (by repeat (first | with_reducible assumption | with_reducible exact Below.refl _ _ | with_reducible apply Below.drew | (with_reducible refine Below.alloc ?_ (by first | omega | (simp only [zA, zS, zD, zN]; omega) | (dsimp only; omega) | (simp only [zA, zS, zD, zN]; dsimp only; omega)) _) | (with_reducible refine Below.setCell ?_ (by first | omega | (simp only [zA, zS, zD, zN]; omega) | (dsimp only; omega) | (simp only [zA, zS, zD, zN]; dsimp only; omega)) _) | (with_reducible apply below_drewN))) (by have := Blk.new ((w.alloc (.cells #[.int .i64 2, .int .i64 n, .slice ad sn scap] 27)).alloc (.cells #[.bool vl, .int .i64 vn, .slice vad vk vcap] 45)) #[.int .i64 0] 3; simpa using this)).mono ?_
  rintro e w1 ⟨rfl, hJ, ho⟩
  have hB1 := ho.up (w0 := w) (by repeat (first | with_reducible assumption | with_reducible exact Below.refl _ _ | with_reducible apply Below.drew | (with_reducible refine Below.alloc ?_ (by first | omega | (simp only [zA, zS, zD, zN]; omega) | (dsimp only; omega) | (simp only [zA, zS, zD, zN]; dsimp only; omega)) _) | (with_reducible refine Below.setCell ?_ (by first | omega | (simp only [zA, zS, zD, zN]; omega) | (dsimp only; omega) | (simp only [zA, zS, zD, zN]; dsimp only; omega)) _) | (with_reducible apply below_drewN))) (by omega) (by omega)
  have c0 := hJ.cell 0
  simp only [List.getElem?_toArray, List.getElem?_cons_zero] at c0
  clear ho
  go_wp2_with fail
  go_ret
  exact ⟨rfl, hB1⟩
set_option maxHeartbeats 1000000 in
theorem told_top {t : VT} (hv : ValAt w (.agg #[.bool vl, .int .i64 vn, .slice vad vk vcap]) t) : Calls Tryz.prog 36 #[.agg #[.int .i64 3, .int .i64 n, .slice ad sn scap], .agg #[.bool vl, .int .i64 vn, .slice vad vk vcap]] w (Tld (some (topW (0, false) t.nums).1) w) := by
  have HV := Lib.hid (fun W hb hJ => numbers_any (vis_top (w.heap.size + 1 + 1) (w.heap.size + 1 + 1) (w.heap.size + 1 + 1 + 1) (Nat.le_refl _) (by omega) (by omega)) w (by omega) t _ (0, false) W hv hb hJ)
  rw [topW_fold] at HV
  clear hv
  go_enter Tryz.func36, Tryz.ntmps36
  go_wp2_with fail
  refine (HV.out _ (by repeat (first | with_reducible assumption | with_reducible exact Below.refl _ _ | with_reducible apply Below.drew | (with_reducible refine Below.alloc ?_ (by first | omega | (simp only [zA, zS, zD, zN]; omega) | (dsimp only; omega) | (simp only [zA, zS, zD, zN]; dsimp only; omega)) _) | (with_reducible refine Below.setCell ?_ (by first | omega | (simp only [zA, zS, zD, zN]; omega) | (dsimp only; omega) | (simp only [zA, zS, zD, zN]; dsimp only; omega)) _) | (with_reducible apply below_drewN))) ⟨?_, ?_⟩).mono ?_
  · have := (Blk.new ((w.alloc (.cells #[.int .i64 3, .int .i64 n, .slice ad sn scap] 27)).alloc (.cells #[.bool vl, .int .i64 vn, .slice vad vk vcap] 45)) #[.int .i64 0] 3).alloc (.cells #[.bool false] 4); simpa using this
  · have := Blk.new (((w.alloc (.cells #[.int .i64 3, .int .i64 n, .slice ad sn scap] 27)).alloc (.cells #[.bool vl, .int .i64 vn, .slice vad vk vcap] 45)).alloc (.cells #[.int .i64 0] 3)) #[.bool false] 4; simpa using this
  rintro e w1 ⟨rfl, hJ, ho⟩
  have hB1 := ho.up (w0 := w) (by repeat (first | with_reducible assumption | with_reducible exact Below.refl _ _ | with_reducible apply Below.drew | (with_reducible refine Below.alloc ?_ (by first | omega | (simp only [zA, zS, zD, zN]; omega) | (dsimp only; omega) | (simp only [zA, zS, zD, zN]; dsimp only; omega)) _) | (with_reducible refine Below.setCell ?_ (by first | omega | (simp only [zA, zS, zD, zN]; omega) | (dsimp only; omega) | (simp only [zA, zS, zD, zN]; dsimp only; omega)) _) | (with_reducible apply below_drewN))) (by omega) (by omega)
  have c0 := hJ.1.cell 0
  simp only [List.getElem?_toArray, List.getElem?_cons_zero] at c0
  clear ho
  go_wp2_with fail
  go_ret
  exact ⟨rfl, hB1⟩
end
theorem toldI_none (s : List ET) : ∀ (i : Nat) (t : VT), s.length ≤ i → ET.toldI s i t = none := by
  induction s with
  | nil => intro i t _; rfl
  | cons y s ih =>
    intro i t hi
    cases i with
    | zero => simp at hi
    | succ i => exact ih i t (by simpa using hi)
/-- WHAT IS TOLD. -/
theorem told_any (x : ET) : ∀ (t : VT) (xv vv : Value) (w : World), ET.eachErr x = 0 → ExprAt w xv x → ValAt w vv t → Calls Tryz.prog 36 #[xv, vv] w (Tld (ET.told x t) w) := by
  induction x using ET.ind with
  | h k n s ih =>
    intro t xv vv w he hx hv
    obtain ⟨hk1, hk2, htk, hkids⟩ := ET.ok_form he
    obtain ⟨k', n', s', ad, cap, hmk, rfl, hk, hn, hl, hm, hs⟩ := hx.form
    obtain ⟨rfl, rfl, rfl⟩ := ET.mk.inj hmk
    obtain ⟨vl, vn, vs, vad, vcap, rfl, rfl, _, hvl, hvm, hvs⟩ := hv.form
    have hsub : ∀ i : Nat, i < s.length → SubAt w i k n vn vl s.length cap vs.length vcap ad vad (ET.toldI s i (.mk vl vn vs)) := by
      intro i hi W hb hx1 hv1
      obtain ⟨bl, off, rfl, hlt1, hc⟩ := (hs.ext hb).at' (by omega)
      obtain ⟨k2, n2, t2, ad2, cap2, c0, c1, c2, hg2⟩ := hc i hi
      rw [ET.toldI_get s i hi]
      refine sub_any _ i _ _ bl off k n k2 n2 vn vl _ _ _ _ _ _ _ _ W hi hl hm hx1 hv1 c0 c1 c2 (Lib.hid fun W2 hb2 => ih s[i] (List.getElem_mem hi) _ _ _ W2 (hkids _ (List.getElem_mem hi)) (hg2.ext hb2) ((hv.ext hb).ext hb2))
    have hcases : k = 1 ∨ k = 2 ∨ k = 3 ∨ k = 4 ∨ k = 5 ∨ k = 6 ∨ k = 7 ∨ k = 8 ∨ k = 9 ∨ k = 10 ∨ k = 11 := by omega
    clear hs hx hmk
    rcases hcases with rfl | rfl | rfl | rfl | rfl | rfl | rfl | rfl | rfl | rfl | rfl
    · have e : ET.told (.mk 1 n s) (.mk vl vn vs) = some n := by simp [ET.told]
      rw [e]; exact told_lit
    · have e : ET.told (.mk 2 n s) (.mk vl vn vs) = some (sumW 0 (VT.nums (.mk vl vn vs))) := by simp [ET.told]
      rw [e]; exact told_sum hv
    · have e : ET.told (.mk 3 n s) (.mk vl vn vs) = some (topW (0, false) (VT.nums (.mk vl vn vs))).1 := by simp [ET.told]
      rw [e]; exact told_top hv
    · have e : ET.told (.mk 4 n s) (.mk vl vn vs) = some (vs.length : Int) := by simp [ET.told, VT.len]
      rw [e]; exact told_len
    all_goals rw [told_k _ _ _ _ (by omega)]
    · have h2 : s.length = 2 := by simp [ET.takes] at htk; omega
      exact told_add (Lib.hid (hsub 0 (by omega))) (Lib.hid (hsub 1 (by omega)))
    · have h2 : s.length = 2 := by simp [ET.takes] at htk; omega
      exact told_rem (Lib.hid (hsub 0 (by omega))) (Lib.hid (hsub 1 (by omega)))
    · have h2 : s.length = 2 := by simp [ET.takes] at htk; omega
      exact told_less (Lib.hid (hsub 0 (by omega))) (Lib.hid (hsub 1 (by omega)))
    · have h2 : s.length = 2 := by simp [ET.takes] at htk; omega
      exact told_same (Lib.hid (hsub 0 (by omega))) (Lib.hid (hsub 1 (by omega)))
    · have h2 : s.length = 1 := by simp [ET.takes] at htk; omega
      exact told_nine (Lib.hid (hsub 0 (by omega)))
    · have h2 : s.length = 2 := by simp [ET.takes] at htk; omega
      exact told_and (Lib.hid (hsub 0 (by omega))) (Lib.hid (hsub 1 (by omega)))
    · have h2 : s.length = 2 := by simp [ET.takes] at htk; omega
      exact told_or (Lib.hid (hsub 0 (by omega))) (Lib.hid (hsub 1 (by omega)))
end Go.Proofs.YtibmnifenfingaaGreatDoor
namespace Go.Proofs.YtibmnifenfingaaGreatDoor
set_option maxRecDepth 100000
open Go.RowKit
set_option linter.unusedSimpArgs false
set_option linter.unusedVariables false
theorem evcatch_idle (p q : Addr) (w : World) :
    CallsD Tryz.prog 35 #[.pointer (some p), .pointer (some q)] .returning w fun e u' w' => e = .returned (.tuple #[]) ∧ u' = .returning ∧ w' = w := by
  refine callsD_of_wpS Tryz.func35 rfl fun c₀ cs hu => ?_
  simp only [Tryz.ntmps35, List.size_toArray, List.length_cons, List.length_nil, Nat.reduceAdd, Nat.reduceSub, Array.replicate_succ, Array.replicate_zero, List.push_toArray, List.append_toArray, List.nil_append, List.cons_append]
  apply wpS_seq
  apply wpS_region
  simp [wpOpsS, go_sem, recoverD, hu, Exit.thenS]
  refine wpS_of_wp ?_
  go_wp2_with fail
  cases c₀
  simp_all [bodyPostS, results, Tryz.results35]
set_option maxHeartbeats 1000000 in
theorem evcatch_panicking (p q : Nat) (x : Int) (o0 ov : Value) (older : List PanicEntry) (w : World) (hp : Blk w p #[o0] 3) (hq : Blk w q #[ov] 37) (hne : p ≠ q) :
    CallsD Tryz.prog 35 #[.pointer (some ⟨p, 0, none⟩), .pointer (some ⟨q, 0, none⟩)] (.panicking ({ v := .iface 29 (.int .i64 x), recovered := false } :: older)) w fun e u' w' =>
      e = .returned (.tuple #[]) ∧ u' = .panicking ({ v := .iface 29 (.int .i64 x), recovered := true } :: older) ∧
      w' = (w.setCell ⟨p, 0, none⟩ (.int .i64 0)).setCell ⟨q, 0, none⟩ (.iface 29 (.int .i64 x)) := by
  have d0 := hp.cell 0
  have u0 := hp.unfrozen 0
  have d3 := hq.cell 0
  have u3 := hq.unfrozen 0
  simp only [List.getElem?_toArray, List.getElem?_cons_succ, List.getElem?_cons_zero] at d0 d3
  refine callsD_of_wpS Tryz.func35 rfl fun c₀ cs hu => ?_
  simp only [Tryz.ntmps35, List.size_toArray, List.length_cons, List.length_nil, Nat.reduceAdd, Nat.reduceSub, Array.replicate_succ, Array.replicate_zero, List.push_toArray, List.append_toArray, List.nil_append, List.cons_append]
  apply wpS_seq
  apply wpS_region
  simp [wpOpsS, go_sem, recoverD, hu, Exit.thenS]
  refine wpS_of_wp ?_
  have hta : ∀ (n : Int) (w : World), Sem.run Tryz.prog (Instr.typeAssert (.iface 29 (.int .i64 n)) 20 29 true) w = .ok (.tuple #[.int .i64 n, .bool true]) w := fun n w => by rfl
  go_wp2_with fail

  cases c₀
  simp_all [bodyPostS, results, Tryz.results35]
set_option maxHeartbeats 4000000 in
theorem eval_any (x : ET) (t : VT) (xv vv : Value) (w : World) (hT : TakesAt w) (hx : ExprAt w xv x) (hv : ValAt w vv t) :
    Calls Tryz.prog 14 #[xv, vv] w fun e w' => e = .returned (.tuple #[.int .i64 (ET.evalR x t).1, errV (ET.evalR x t).2]) ∧ Below w.heap.size w w' := by
  have C1 := Lib.hid (fun W (hb : Below w.heap.size w W) => xcheck_any x xv W (hT.ext hb) (hx.ext hb))
  have C2 := Lib.hid (fun W (hb : Below w.heap.size w W) => valCheck_any t vv W (hv.ext hb))
  have C3 := Lib.hid (fun W (h : ET.check x = 0) (hb : Below w.heap.size w W) => told_any x t xv vv W (ET.check_each h) (hx.ext hb) (hv.ext hb))
  have HR : Hid (ET.evalR x t = if ET.check x ≠ 0 then (0, ET.check x) else if VT.chk t 0 ≠ 0 then (0, VT.chk t 0) else match ET.told x t with
    | none => (0, 6)
    | some n => (n, 0)) := rfl
  obtain ⟨xk, xn, xs, xad, xcap, rfl⟩ := hx.shape
  obtain ⟨vl, vn, vk, vad, vcap, rfl⟩ := hv.shape
  generalize ET.evalR x t = R at *
  generalize ET.check x = c1 at *
  generalize VT.chk t 0 = c2 at *
  generalize ET.told x t = r at *
  clear hx hv hT
  go_enter_defers Tryz.func14, Tryz.ntmps14
  go_wp2_with fail
  refine (C1.out _ (by repeat (first | with_reducible assumption | with_reducible exact Below.refl _ _ | with_reducible apply Below.drew | (with_reducible refine Below.alloc ?_ (by first | omega | (simp only [zA, zS, zD, zN]; omega) | (dsimp only; omega) | (simp only [zA, zS, zD, zN]; dsimp only; omega)) _) | (with_reducible refine Below.setCell ?_ (by first | omega | (simp only [zA, zS, zD, zN]; omega) | (dsimp only; omega) | (simp only [zA, zS, zD, zN]; dsimp only; omega)) _) | (with_reducible apply below_drewN)))).mono ?_
  rintro e w1 ⟨rfl, hb1⟩
  have hB1 : Below w.heap.size w w1 := Below.trans (by repeat (first | with_reducible assumption | with_reducible exact Below.refl _ _ | with_reducible apply Below.drew | (with_reducible refine Below.alloc ?_ (by first | omega | (simp only [zA, zS, zD, zN]; omega) | (dsimp only; omega) | (simp only [zA, zS, zD, zN]; dsimp only; omega)) _) | (with_reducible refine Below.setCell ?_ (by first | omega | (simp only [zA, zS, zD, zN]; omega) | (dsimp only; omega) | (simp only [zA, zS, zD, zN]; dsimp only; omega)) _) | (with_reducible apply below_drewN))) (hb1.mono (by first | omega | (simp only [zA, zS, zD, zN]; omega) | (dsimp only; omega) | (simp only [zA, zS, zD, zN]; dsimp only; omega)))
  have x2 := (((Blk.new (w.alloc (.cells #[.int .i64 xk, .int .i64 xn, .slice xad xs xcap] 27)) #[.bool vl, .int .i64 vn, .slice vad vk vcap] 45).alloc (.cells #[.int .i64 0] 3)).alloc (.cells #[.nilIface] 37)).ext hb1
  have x1 := ((((Blk.new w #[.int .i64 xk, .int .i64 xn, .slice xad xs xcap] 27).alloc (.cells #[.bool vl, .int .i64 vn, .slice vad vk vcap] 45)).alloc (.cells #[.int .i64 0] 3)).alloc (.cells #[.nilIface] 37)).ext hb1
  have x4 := ((Blk.new ((w.alloc (.cells #[.int .i64 xk, .int .i64 xn, .slice xad xs xcap] 27)).alloc (.cells #[.bool vl, .int .i64 vn, .slice vad vk vcap] 45)) #[.int .i64 0] 3).alloc (.cells #[.nilIface] 37)).ext hb1
  have x5 := (Blk.new (((w.alloc (.cells #[.int .i64 xk, .int .i64 xn, .slice xad xs xcap] 27)).alloc (.cells #[.bool vl, .int .i64 vn, .slice vad vk vcap] 45)).alloc (.cells #[.int .i64 0] 3)) #[.nilIface] 37).ext hb1
  simp only [World.size_alloc] at x1 x2 x4 x5
  have hz1 := hB1.size
  clear hb1
  have n0 := x4.cell 0
  simp only [List.getElem?_toArray, List.getElem?_cons_succ, List.getElem?_cons_zero] at n0
  have q0 := x5.cell 0
  simp only [List.getElem?_toArray, List.getElem?_cons_succ, List.getElem?_cons_zero] at q0
  have u4 := x4.unfrozen 0
  have u5 := x5.unfrozen 0
  by_cases h1 : c1 = 0
  · subst h1
    rw [errV_zero]
    have f0 := x2.cell 0
    have f1 := x2.cell 1
    have f2 := x2.cell 2
    simp only [List.getElem?_toArray, List.getElem?_cons_succ, List.getElem?_cons_zero] at f0 f1 f2
    go_wp2_with fail
    refine (C2.out _ hB1).mono ?_
    rintro e w2 ⟨rfl, hb2⟩
    have hB2 := hB1.trans (hb2.mono hB1.size)
    clear f0 f1 f2 n0 q0 u4 u5
    have x1 := x1.ext hb2
    have x2 := x2.ext hb2
    have x4 := x4.ext hb2
    have x5 := x5.ext hb2
    have hz2 := hB2.size
    clear hb2
    have n0 := x4.cell 0
    simp only [List.getElem?_toArray, List.getElem?_cons_succ, List.getElem?_cons_zero] at n0
    have q0 := x5.cell 0
    simp only [List.getElem?_toArray, List.getElem?_cons_succ, List.getElem?_cons_zero] at q0
    have u4 := x4.unfrozen 0
    have u5 := x5.unfrozen 0
    by_cases h2 : c2 = 0
    · subst h2
      rw [errV_zero]
      have g0 := x1.cell 0
      have g1 := x1.cell 1
      have g2 := x1.cell 2
      simp only [List.getElem?_toArray, List.getElem?_cons_succ, List.getElem?_cons_zero] at g0 g1 g2
      have f0 := x2.cell 0
      have f1 := x2.cell 1
      have f2 := x2.cell 2
      simp only [List.getElem?_toArray, List.getElem?_cons_succ, List.getElem?_cons_zero] at f0 f1 f2
      go_wp2_with fail
      refine (C3.out _ trivial hB2).mono ?_
      rintro e w3 ht
      clear C1 C2 C3 g0 g1 g2 f0 f1 f2
      cases r with
      | none =>
        obtain ⟨rfl, hb3⟩ := ht
        have hB3 := hB2.trans (hb3.mono hB2.size)
        have y4 := x4.ext hb3
        have y5 := x5.ext hb3
        clear n0 q0 u4 u5 x1 x2 x4 x5 hb3
        refine leaves_cons (f := 35) (args := #[.pointer (some ⟨w.heap.size + 1 + 1, 0, none⟩), .pointer (some ⟨w.heap.size + 1 + 1 + 1, 0, none⟩)]) (by simp) (by simp [go_sem]) ?_
        refine (evcatch_panicking (w.heap.size + 1 + 1) (w.heap.size + 1 + 1 + 1) 6 _ _ [] _ y4 y5 (by omega)).mono ?_
        rintro e u' w'' ⟨rfl, rfl, rfl⟩
        have e4 := (y4.set 0 (.int .i64 0)).oth (w.heap.size + 1 + 1 + 1) 0 (by omega) (.iface 29 (.int .i64 6))
        have e5 := (y5.oth (w.heap.size + 1 + 1) 0 (by omega) (.int .i64 0)).set 0 (.iface 29 (.int .i64 6))
        simp only [List.setIfInBounds_toArray, List.set_cons_zero] at e4 e5
        have hBf : Below w.heap.size w ((w3.setCell ⟨w.heap.size + 1 + 1, 0, none⟩ (.int .i64 0)).setCell ⟨w.heap.size + 1 + 1 + 1, 0, none⟩ (.iface 29 (.int .i64 6))) := by repeat (first | with_reducible assumption | with_reducible exact Below.refl _ _ | with_reducible apply Below.drew | (with_reducible refine Below.alloc ?_ (by first | omega | (simp only [zA, zS, zD, zN]; omega) | (dsimp only; omega) | (simp only [zA, zS, zD, zN]; dsimp only; omega)) _) | (with_reducible refine Below.setCell ?_ (by first | omega | (simp only [zA, zS, zD, zN]; omega) | (dsimp only; omega) | (simp only [zA, zS, zD, zN]; dsimp only; omega)) _) | (with_reducible apply below_drewN))
        generalize (w3.setCell ⟨w.heap.size + 1 + 1, 0, none⟩ (.int .i64 0)).setCell ⟨w.heap.size + 1 + 1 + 1, 0, none⟩ (.iface 29 (.int .i64 6)) = W4 at *
        have n0 := e4.cell 0
        simp only [List.getElem?_toArray, List.getElem?_cons_succ, List.getElem?_cons_zero] at n0
        have q0 := e5.cell 0
        simp only [List.getElem?_toArray, List.getElem?_cons_succ, List.getElem?_cons_zero] at q0
        simp [Leaves, settle, results, Tryz.results14, go_sem, n0, q0]
        rw [HR.out]
        exact ⟨⟨rfl, rfl⟩, hBf⟩
      | some m =>
        obtain ⟨rfl, hb3⟩ := ht
        have hB3 := hB2.trans (hb3.mono hB2.size)
        clear n0 q0 u4 u5 x1 x2
        have y4 := x4.ext hb3
        have y5 := x5.ext hb3
        clear x4 x5 hb3
        have hz3 := hB3.size
        have n0 := y4.cell 0
        simp only [List.getElem?_toArray, List.getElem?_cons_succ, List.getElem?_cons_zero] at n0
        have q0 := y5.cell 0
        simp only [List.getElem?_toArray, List.getElem?_cons_succ, List.getElem?_cons_zero] at q0
        have u4 := y4.unfrozen 0
        have u5 := y5.unfrozen 0
        go_wp2_with fail
        have e4 := (y4.set 0 (.int .i64 m)).oth (w.heap.size + 1 + 1 + 1) 0 (by omega) .nilIface
        have e5 := (y5.oth (w.heap.size + 1 + 1) 0 (by omega) (.int .i64 m)).set 0 .nilIface
        simp only [List.setIfInBounds_toArray, List.set_cons_zero] at e4 e5
        have hBf : Below w.heap.size w ((w3.setCell ⟨w.heap.size + 1 + 1, 0, none⟩ (.int .i64 m)).setCell ⟨w.heap.size + 1 + 1 + 1, 0, none⟩ .nilIface) := by repeat (first | with_reducible assumption | with_reducible exact Below.refl _ _ | with_reducible apply Below.drew | (with_reducible refine Below.alloc ?_ (by first | omega | (simp only [zA, zS, zD, zN]; omega) | (dsimp only; omega) | (simp only [zA, zS, zD, zN]; dsimp only; omega)) _) | (with_reducible refine Below.setCell ?_ (by first | omega | (simp only [zA, zS, zD, zN]; omega) | (dsimp only; omega) | (simp only [zA, zS, zD, zN]; dsimp only; omega)) _) | (with_reducible apply below_drewN))
        clear n0 q0 u4 u5
        generalize (w3.setCell ⟨w.heap.size + 1 + 1, 0, none⟩ (.int .i64 m)).setCell ⟨w.heap.size + 1 + 1 + 1, 0, none⟩ .nilIface = W4 at *
        have n0 := e4.cell 0
        simp only [List.getElem?_toArray, List.getElem?_cons_succ, List.getElem?_cons_zero] at n0
        have q0 := e5.cell 0
        simp only [List.getElem?_toArray, List.getElem?_cons_succ, List.getElem?_cons_zero] at q0
        refine leaves_cons (f := 35) (args := #[.pointer (some ⟨w.heap.size + 1 + 1, 0, none⟩), .pointer (some ⟨w.heap.size + 1 + 1 + 1, 0, none⟩)]) (by simp) (by simp [go_sem]) ?_
        refine (evcatch_idle ⟨w.heap.size + 1 + 1, 0, none⟩ ⟨w.heap.size + 1 + 1 + 1, 0, none⟩ _).mono ?_
        rintro e u' w'' ⟨rfl, rfl, rfl⟩
        simp [Leaves, settle, results, Tryz.results14, go_sem, n0, q0]
        rw [HR.out]
        exact ⟨⟨rfl, rfl⟩, hBf⟩
    · have HX : Hid (R = (0, c2)) := HR.out.trans (by rw [if_neg (by simp), if_pos h2])
      rw [errV_ne h2]
      clear C1 C3
      go_wp2_with fail
      have e4 := (x4.set 0 (.int .i64 0)).oth (w.heap.size + 1 + 1 + 1) 0 (by omega) (.iface 29 (.int .i64 c2))
      have e5 := (x5.oth (w.heap.size + 1 + 1) 0 (by omega) (.int .i64 0)).set 0 (.iface 29 (.int .i64 c2))
      simp only [List.setIfInBounds_toArray, List.set_cons_zero] at e4 e5
      have hBf : Below w.heap.size w ((w2.setCell ⟨w.heap.size + 1 + 1, 0, none⟩ (.int .i64 0)).setCell ⟨w.heap.size + 1 + 1 + 1, 0, none⟩ (.iface 29 (.int .i64 c2))) := by repeat (first | with_reducible assumption | with_reducible exact Below.refl _ _ | with_reducible apply Below.drew | (with_reducible refine Below.alloc ?_ (by first | omega | (simp only [zA, zS, zD, zN]; omega) | (dsimp only; omega) | (simp only [zA, zS, zD, zN]; dsimp only; omega)) _) | (with_reducible refine Below.setCell ?_ (by first | omega | (simp only [zA, zS, zD, zN]; omega) | (dsimp only; omega) | (simp only [zA, zS, zD, zN]; dsimp only; omega)) _) | (with_reducible apply below_drewN))
      clear n0 q0 u4 u5
      generalize (w2.setCell ⟨w.heap.size + 1 + 1, 0, none⟩ (.int .i64 0)).setCell ⟨w.heap.size + 1 + 1 + 1, 0, none⟩ (.iface 29 (.int .i64 c2)) = W4 at *
      have n0 := e4.cell 0
      simp only [List.getElem?_toArray, List.getElem?_cons_succ, List.getElem?_cons_zero] at n0
      have q0 := e5.cell 0
      simp only [List.getElem?_toArray, List.getElem?_cons_succ, List.getElem?_cons_zero] at q0
      simp [bodyPostD, Leaves, settle, results, Tryz.results14, go_sem, n0, q0]
      rw [HX.out]
      exact ⟨⟨rfl, (errV_ne h2).symm⟩, hBf⟩
  · have HX : Hid (R = (0, c1)) := HR.out.trans (by rw [if_pos h1])
    rw [errV_ne h1]
    clear C2 C3
    go_wp2_with fail
    have e4 := (x4.set 0 (.int .i64 0)).oth (w.heap.size + 1 + 1 + 1) 0 (by omega) (.iface 29 (.int .i64 c1))
    have e5 := (x5.oth (w.heap.size + 1 + 1) 0 (by omega) (.int .i64 0)).set 0 (.iface 29 (.int .i64 c1))
    simp only [List.setIfInBounds_toArray, List.set_cons_zero] at e4 e5
    have hBf : Below w.heap.size w ((w1.setCell ⟨w.heap.size + 1 + 1, 0, none⟩ (.int .i64 0)).setCell ⟨w.heap.size + 1 + 1 + 1, 0, none⟩ (.iface 29 (.int .i64 c1))) := by repeat (first | with_reducible assumption | with_reducible exact Below.refl _ _ | with_reducible apply Below.drew | (with_reducible refine Below.alloc ?_ (by first | omega | (simp only [zA, zS, zD, zN]; omega) | (dsimp only; omega) | (simp only [zA, zS, zD, zN]; dsimp only; omega)) _) | (with_reducible refine Below.setCell ?_ (by first | omega | (simp only [zA, zS, zD, zN]; omega) | (dsimp only; omega) | (simp only [zA, zS, zD, zN]; dsimp only; omega)) _) | (with_reducible apply below_drewN))
    clear n0 q0 u4 u5
    generalize (w1.setCell ⟨w.heap.size + 1 + 1, 0, none⟩ (.int .i64 0)).setCell ⟨w.heap.size + 1 + 1 + 1, 0, none⟩ (.iface 29 (.int .i64 c1)) = W4 at *
    have n0 := e4.cell 0
    simp only [List.getElem?_toArray, List.getElem?_cons_succ, List.getElem?_cons_zero] at n0
    have q0 := e5.cell 0
    simp only [List.getElem?_toArray, List.getElem?_cons_succ, List.getElem?_cons_zero] at q0
    simp [bodyPostD, Leaves, settle, results, Tryz.results14, go_sem, n0, q0]
    rw [HX.out]
    exact ⟨⟨rfl, (errV_ne h1).symm⟩, hBf⟩
end Go.Proofs.YtibmnifenfingaaGreatDoor
namespace Go.Proofs.YtibmnifenfingaaGreatDoor
set_option maxRecDepth 100000
open Go.RowKit
set_option linter.unusedSimpArgs false
set_option linter.unusedVariables false
theorem errno_comp : (Tryz.prog.info? 29).map (·.comparable) = some true := by kernel_rfl
theorem eq_errno (a b : Int) (w : World) : (binOp .eql 37 (.iface 29 (.int .i64 a)) (.iface 29 (.int .i64 b))).run Tryz.prog w = .ok (.bool (a == b)) w :=
  Go.Lib.run_eql_iface_int w a b Tryz.underlying37 errno_comp Tryz.underlying29
theorem neq_errno (a b : Int) (w : World) : (binOp .neq 37 (.iface 29 (.int .i64 a)) (.iface 29 (.int .i64 b))).run Tryz.prog w = .ok (.bool (!(a == b))) w :=
  Go.Lib.run_neq_iface_int w a b Tryz.underlying37 errno_comp Tryz.underlying29
set_option maxHeartbeats 1000000 in
theorem fails_any (x : ET) (t : VT) (xv vv : Value) (w : World) (hT : TakesAt w) (hx : ExprAt w xv x) (hv : ValAt w vv t) :
    Calls Tryz.prog 72 #[xv, vv] w fun e w' => e = .returned (.tuple #[.bool (ET.failsR x t).1, errV (ET.failsR x t).2]) ∧ Below w.heap.size w w' := by
  have C1 := Lib.hid (fun W (hb : Below w.heap.size w W) => eval_any x t xv vv W (hT.ext hb) (hx.ext hb) (hv.ext hb))
  have HR : Hid (ET.failsR x t = if (ET.evalR x t).2 = 6 then (true, 0) else if (ET.evalR x t).2 ≠ 0 then (false, (ET.evalR x t).2) else ((ET.evalR x t).1 == 0, 0)) := rfl
  obtain ⟨xk, xn, xs, xad, xcap, rfl⟩ := hx.shape
  obtain ⟨vl, vn, vk, vad, vcap, rfl⟩ := hv.shape
  generalize ET.failsR x t = R at *
  generalize ET.evalR x t = E at *
  obtain ⟨E1, E2⟩ := E
  clear hx hv hT
  dsimp only at C1 HR
  have hq := eq_errno
  have hn := fun (w : World) => run_eql_iface_nil_left (P := Tryz.prog) w 29 (.int .i64 6) Tryz.underlying37
  go_enter Tryz.func72, Tryz.ntmps72
  go_wp2_with fail
  refine (C1.out _ (by repeat (first | with_reducible assumption | with_reducible exact Below.refl _ _ | with_reducible apply Below.drew | (with_reducible refine Below.alloc ?_ (by first | omega | (simp only [zA, zS, zD, zN]; omega) | (dsimp only; omega) | (simp only [zA, zS, zD, zN]; dsimp only; omega)) _) | (with_reducible refine Below.setCell ?_ (by first | omega | (simp only [zA, zS, zD, zN]; omega) | (dsimp only; omega) | (simp only [zA, zS, zD, zN]; dsimp only; omega)) _) | (with_reducible apply below_drewN)))).mono ?_
  rintro e w1 ⟨rfl, hb1⟩
  have hB1 : Below w.heap.size w w1 := Below.trans (by repeat (first | with_reducible assumption | with_reducible exact Below.refl _ _ | with_reducible apply Below.drew | (with_reducible refine Below.alloc ?_ (by first | omega | (simp only [zA, zS, zD, zN]; omega) | (dsimp only; omega) | (simp only [zA, zS, zD, zN]; dsimp only; omega)) _) | (with_reducible refine Below.setCell ?_ (by first | omega | (simp only [zA, zS, zD, zN]; omega) | (dsimp only; omega) | (simp only [zA, zS, zD, zN]; dsimp only; omega)) _) | (with_reducible apply below_drewN))) (hb1.mono (by first | omega | (simp only [zA, zS, zD, zN]; omega) | (dsimp only; omega) | (simp only [zA, zS, zD, zN]; dsimp only; omega)))
  clear hb1
  by_cases h0 : E2 = 0
  · subst h0
    have HX : Hid (R = (E1 == 0, 0)) := HR.out.trans (by simp)
    rw [errV_zero]
    clear HR
    go_wp2_with fail
    go_ret2
    rw [HX.out]
    exact ⟨rfl, hB1⟩
  · by_cases h6 : E2 = 6
    · subst h6
      have HX : Hid (R = (true, 0)) := HR.out.trans (by simp)
      rw [errV_ne h0]
      clear HR h0
      go_wp2_with fail
      go_ret2
      rw [HX.out]
      exact ⟨rfl, hB1⟩
    · have HX : Hid (R = (false, E2)) := HR.out.trans (by rw [if_neg h6, if_pos h0])
      have q1 : (E2 == 6) = false := by simpa using h6
      rw [errV_ne h0]
      have H0 := Lib.hid h0
      clear HR h0 h6
      go_wp2_with fail
      go_ret2
      rw [HX.out]
      exact ⟨by rw [errV_ne H0.out]; rfl, hB1⟩
set_option maxHeartbeats 1000000 in
theorem asked_fact (w : World) (hT : TakesAt w) : Calls Tryz.prog 5 #[] w fun e w' => e = .returned (.bool true) ∧ Below w.heap.size w w' := by
  have C1 := Lib.hid (fun W xv vv (hb : Below w.heap.size w W) hx hv => eval_any (.mk 5 0 [.mk 2 0 [], .mk 1 2 []]) (.mk false 3 []) xv vv W (hT.ext hb) hx hv)
  have hR : ET.evalR (.mk 5 0 [.mk 2 0 [], .mk 1 2 []]) (.mk false 3 []) = (5, 0) := by decide +kernel
  rw [hR] at C1
  clear hT hR
  go_enter Tryz.func5, Tryz.ntmps5
  go_wp2_with fail
  have hB : Below w.heap.size w (w.alloc (.cells #[.int .i64 2, .int .i64 0, .slice none 0 0, .int .i64 1, .int .i64 2, .slice none 0 0] 27)) := by repeat (first | with_reducible assumption | with_reducible exact Below.refl _ _ | with_reducible apply Below.drew | (with_reducible refine Below.alloc ?_ (by first | omega | (simp only [zA, zS, zD, zN]; omega) | (dsimp only; omega) | (simp only [zA, zS, zD, zN]; dsimp only; omega)) _) | (with_reducible refine Below.setCell ?_ (by first | omega | (simp only [zA, zS, zD, zN]; omega) | (dsimp only; omega) | (simp only [zA, zS, zD, zN]; dsimp only; omega)) _) | (with_reducible apply below_drewN))
  have hb := Blk.new w #[.int .i64 2, .int .i64 0, .slice none 0 0, .int .i64 1, .int .i64 2, .slice none 0 0] 27
  refine (C1.out _ _ _ hB (ExprAt.make (s := [_, _]) ⟨by omega, by omega⟩ ⟨by omega, by omega⟩ (by simp) (by simp) (exprs_two hb (ExprAt.leaf _ _ ⟨by omega, by omega⟩ ⟨by omega, by omega⟩) (ExprAt.leaf _ _ ⟨by omega, by omega⟩ ⟨by omega, by omega⟩))) (ValIn.leaf _ _ ⟨by omega, by omega⟩)).mono ?_
  rintro e w1 ⟨rfl, hb1⟩
  have hB1 := hB.trans (hb1.mono hB.size)
  rw [errV_zero]
  clear hb hb1 hB
  go_wp2_with fail
  go_ret
  exact ⟨rfl, hB1⟩
end Go.Proofs.YtibmnifenfingaaGreatDoor
