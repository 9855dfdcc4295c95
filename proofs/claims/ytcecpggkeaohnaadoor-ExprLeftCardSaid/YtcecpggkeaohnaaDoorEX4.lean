/- The walks through what an expression tells: expr.told. -/
import Derived.Test.YtcecpggkeaohnaaDoorEX3
namespace Go.Proofs.YtcecpggkeaohnaaDoor
set_option maxRecDepth 100000
open Go.RowKit
set_option linter.unusedSimpArgs false
set_option linter.unusedVariables false
/-- What is told: a number, or the panic of what has none. -/
def Tld (r : Option Int) (w : World) (e : Ending) (w' : World) : Prop := match r with
  | some n => e = .returned (.int .i64 n) ∧ Below w.heap.size w w'
  | none => e = .panicked [{ v := .iface 63 (.int .i64 6), recovered := false }] ∧ Below w.heap.size w w'
set_option maxHeartbeats 1000000 in
theorem sub_any (r : Option Int) (i : Nat) (bx bv bl off : Nat) (k n k2 n2 vn : Int) (vl : Bool) (sn scap t2 cap2 vk vcap : Nat) (ad2 vad : Option Addr) (w : World) (hi : i < sn) (hc1 : sn ≤ scap) (hc2 : scap ≤ 9223372036854775807)
    (hx : Blk w bx #[.int .i64 k, .int .i64 n, .slice (some ⟨bl, off, none⟩) sn scap] 24) (hv : Blk w bv #[.bool vl, .int .i64 vn, .slice vad vk vcap] 27)
    (c0 : w.cell? ⟨bl, off + i * 3, none⟩ = some (.int .i64 k2)) (c1 : w.cell? ⟨bl, off + i * 3 + 1, none⟩ = some (.int .i64 n2)) (c2 : w.cell? ⟨bl, off + i * 3 + 2, none⟩ = some (.slice ad2 t2 cap2))
    (H : Hid (∀ W, Below w.heap.size w W → Calls Tryd.prog 36 #[.agg #[.int .i64 k2, .int .i64 n2, .slice ad2 t2 cap2], .agg #[.bool vl, .int .i64 vn, .slice vad vk vcap]] W (Tld r W))) :
    Calls Tryd.prog 62 #[.int .i64 i, .pointer (some ⟨bx, 0, none⟩), .pointer (some ⟨bv, 0, none⟩)] w (Tld r w) := by
  have p0 : (0 : Int) ≤ (i : Int) := by omega
  have p1 : (i : Int) < (sn : Int) := by omega
  have d0 := hv.cell 0
  have d1 := hv.cell 1
  have d2 := hv.cell 2
  have d3 := hx.cell 2
  simp only [List.getElem?_toArray, List.getElem?_cons_succ, List.getElem?_cons_zero] at d0 d1 d2 d3
  clear hx hv hi
  go_enter Tryd.func62, Tryd.ntmps62
  go_wp2_with fail
  refine region_take (S := fun w' => w'.cell? ⟨bl, off + i * 3, none⟩ = some (.int .i64 k2) ∧ w'.cell? ⟨bl, off + i * 3 + 1, none⟩ = some (.int .i64 n2) ∧ w'.cell? ⟨bl, off + i * 3 + 2, none⟩ = some (.slice ad2 t2 cap2) ∧ w'.cell? ⟨bv, 0, none⟩ = some (.bool vl) ∧ w'.cell? ⟨bv, 1, none⟩ = some (.int .i64 vn) ∧ w'.cell? ⟨bv, 2, none⟩ = some (.slice vad vk vcap) ∧ w'.cell? ⟨bx, 2, none⟩ = some (.slice (some ⟨bl, off, none⟩) sn scap)) (n := 6) (takes := [0, 1, 2, 3, 4, 5]) (rest := [6, 7]) (hm := by kernel_rfl) (hB := by kernel_rfl) (hQ := fun c a d v w h => by cases d <;> exact h) (hS := ⟨c0, c1, c2, d0, d1, d2, d3⟩) ?_
  iterate 6
    rw [takeT_eq]
    simp only [List.getElem?_toArray, List.getElem?_cons_succ, List.getElem?_cons_zero]
    refine ⟨?_, .inl ⟨by rfl, ?_⟩, ?_⟩
    rotate_left
    · rintro w' ⟨c0, c1, c2, d0, d1, d2, d3⟩
      go_simp
      rfl
    simp only [Act.put, List.setIfInBounds_toArray, List.set_cons_zero, List.set_cons_succ]
  rw [wpTakeT]
  rw [seqT_eq]
  simp only [List.getElem?_toArray, List.getElem?_cons_succ, List.getElem?_cons_zero]
  go_wp2_with fail
  have hBd : Below w.heap.size w w.drew := Below.drew (Below.refl _ _)
  refine (H.out w.drew hBd).mono ?_
  rintro e w3 he
  cases r with
  | none =>
    obtain ⟨rfl, hb⟩ := he
    have fin : ([] : List Deferred) = [] ∧ Tld none w (.panicked [{ v := .iface 63 (.int .i64 6), recovered := false }]) w3 := ⟨rfl, rfl, hBd.trans hb⟩
    exact fin
  | some m =>
    obtain ⟨rfl, hb⟩ := he
    go_wp2_with fail
    refine And.intro (fun h => absurd h (by decide)) ?_
    rw [seqT_eq]
    simp only [List.getElem?_toArray, List.getElem?_cons_succ, List.getElem?_cons_zero]
    go_wp2_with fail
    refine And.intro (fun h => absurd h (by decide)) ?_
    rw [wpSeqT]
    go_wp2_with fail
    go_ret
    exact ⟨rfl, hBd.trans hb⟩
/-- What is told by two that were told. -/
def toldK (k : Int) (r0 r1 : Option Int) : Option Int := match r0 with
  | none => none
  | some a =>
    if k = 9 then some (truth (a == 0))
    else if (k = 10 ∧ a = 0) ∨ (k = 11 ∧ a ≠ 0) then some a
    else match r1 with
      | none => none
      | some b =>
        if k = 10 ∨ k = 11 then some b
        else if k = 5 then some (wrap64 (a + b))
        else if k = 7 then some (truth (decide (a < b)))
        else if k = 8 then some (truth (a == b))
        else if b = 0 then none
        else some (a.tmod b)
theorem told_k (k n : Int) (s : List ET) (v : VT) (h : 5 ≤ k) : ET.told (.mk k n s) v = toldK k (ET.toldI s 0 v) (ET.toldI s 1 v) := by
  simp only [ET.told]
  rw [if_neg (by omega), if_neg (by omega), if_neg (by omega), if_neg (by omega)]
  rfl
/-- A sub is told, wherever the two variables lie as they did. -/
def SubAt (w : World) (i : Int) (k n vn : Int) (vl : Bool) (sn scap vk vcap : Nat) (ad vad : Option Addr) (r : Option Int) : Prop :=
  ∀ W, Below w.heap.size w W → Blk W w.heap.size #[.int .i64 k, .int .i64 n, .slice ad sn scap] 24 → Blk W (w.heap.size + 1) #[.bool vl, .int .i64 vn, .slice vad vk vcap] 27 →
    Calls Tryd.prog 62 #[.int .i64 i, .pointer (some ⟨w.heap.size, 0, none⟩), .pointer (some ⟨w.heap.size + 1, 0, none⟩)] W (Tld r W)
def panics (w3 : World) : Ending := .panicked [{ v := .iface 63 (.int .i64 6), recovered := false }]
section
variable {k n vn : Int} {vl : Bool} {sn scap vk vcap : Nat} {ad vad : Option Addr} {r0 r1 : Option Int} {w : World}
theorem told_nine (H0 : Hid (SubAt w 0 9 n vn vl sn scap vk vcap ad vad r0)) :
    Calls Tryd.prog 36 #[.agg #[.int .i64 9, .int .i64 n, .slice ad sn scap], .agg #[.bool vl, .int .i64 vn, .slice vad vk vcap]] w (Tld (toldK 9 r0 r1) w) := by
  go_enter Tryd.func36, Tryd.ntmps36
  go_wp2_with fail
  have hB0 : Below w.heap.size w ((w.alloc (.cells #[.int .i64 9, .int .i64 n, .slice ad sn scap] 24)).alloc (.cells #[.bool vl, .int .i64 vn, .slice vad vk vcap] 27)) := by repeat (first | with_reducible assumption | with_reducible exact Below.refl _ _ | with_reducible apply Below.drew | (with_reducible refine Below.alloc ?_ (by first | omega | (simp only [World.size_alloc, size_setCell, size_drew, size_drewN]; omega) | (dsimp only; omega) | (simp only [World.size_alloc, size_setCell, size_drew, size_drewN]; dsimp only; omega)) _) | (with_reducible refine Below.setCell ?_ (by first | omega | (simp only [World.size_alloc, size_setCell, size_drew, size_drewN]; omega) | (dsimp only; omega) | (simp only [World.size_alloc, size_setCell, size_drew, size_drewN]; dsimp only; omega)) _) | (with_reducible apply below_drewN))
  refine (H0.out _ hB0 ((Blk.new _ _ _).alloc _) (by have := Blk.new (w.alloc (.cells #[.int .i64 9, .int .i64 n, .slice ad sn scap] 24)) #[.bool vl, .int .i64 vn, .slice vad vk vcap] 27; simpa using this)).mono ?_
  rintro e w1 he
  cases r0 with
  | none =>
    obtain ⟨rfl, hb⟩ := he
    have fin : ([] : List Deferred) = [] ∧ Tld none w (.panicked [{ v := .iface 63 (.int .i64 6), recovered := false }]) w1 := ⟨rfl, rfl, hB0.trans (hb.mono hB0.size)⟩
    exact fin
  | some a =>
    obtain ⟨rfl, hb⟩ := he
    have hB1 := hB0.trans (hb.mono hB0.size)
    clear hb hB0 H0
    go_wp2_with fail
    refine (truth_any _ _).mono ?_
    rintro e w2 ⟨rfl, rfl⟩
    go_wp2_with fail
    go_ret
    exact ⟨rfl, hB1⟩
set_option maxHeartbeats 1000000 in
theorem told_and (H0 : Hid (SubAt w 0 10 n vn vl sn scap vk vcap ad vad r0)) (H1 : Hid (SubAt w 1 10 n vn vl sn scap vk vcap ad vad r1)) :
    Calls Tryd.prog 36 #[.agg #[.int .i64 10, .int .i64 n, .slice ad sn scap], .agg #[.bool vl, .int .i64 vn, .slice vad vk vcap]] w (Tld (toldK 10 r0 r1) w) := by
  go_enter Tryd.func36, Tryd.ntmps36
  go_wp2_with fail
  have hB0 : Below w.heap.size w ((w.alloc (.cells #[.int .i64 10, .int .i64 n, .slice ad sn scap] 24)).alloc (.cells #[.bool vl, .int .i64 vn, .slice vad vk vcap] 27)) := by repeat (first | with_reducible assumption | with_reducible exact Below.refl _ _ | with_reducible apply Below.drew | (with_reducible refine Below.alloc ?_ (by first | omega | (simp only [World.size_alloc, size_setCell, size_drew, size_drewN]; omega) | (dsimp only; omega) | (simp only [World.size_alloc, size_setCell, size_drew, size_drewN]; dsimp only; omega)) _) | (with_reducible refine Below.setCell ?_ (by first | omega | (simp only [World.size_alloc, size_setCell, size_drew, size_drewN]; omega) | (dsimp only; omega) | (simp only [World.size_alloc, size_setCell, size_drew, size_drewN]; dsimp only; omega)) _) | (with_reducible apply below_drewN))
  have x1 : Blk ((w.alloc (.cells #[.int .i64 10, .int .i64 n, .slice ad sn scap] 24)).alloc (.cells #[.bool vl, .int .i64 vn, .slice vad vk vcap] 27)) w.heap.size #[.int .i64 10, .int .i64 n, .slice ad sn scap] 24 := (Blk.new _ _ _).alloc _
  have x2 : Blk ((w.alloc (.cells #[.int .i64 10, .int .i64 n, .slice ad sn scap] 24)).alloc (.cells #[.bool vl, .int .i64 vn, .slice vad vk vcap] 27)) (w.heap.size + 1) #[.bool vl, .int .i64 vn, .slice vad vk vcap] 27 := by have := Blk.new (w.alloc (.cells #[.int .i64 10, .int .i64 n, .slice ad sn scap] 24)) #[.bool vl, .int .i64 vn, .slice vad vk vcap] 27; simpa using this
  refine (H0.out _ hB0 x1 x2).mono ?_
  rintro e w1 he
  cases r0 with
  | none =>
    obtain ⟨rfl, hb⟩ := he
    have fin : ([] : List Deferred) = [] ∧ Tld none w (.panicked [{ v := .iface 63 (.int .i64 6), recovered := false }]) w1 := ⟨rfl, rfl, hB0.trans (hb.mono hB0.size)⟩
    exact fin
  | some a =>
    obtain ⟨rfl, hb⟩ := he
    have hB1 := hB0.trans (hb.mono hB0.size)
    have z1 := x1.ext hb
    have z2 := x2.ext hb
    have f0 := z1.cell 0
    have f1 := z1.cell 1
    have f2 := z1.cell 2
    simp only [List.getElem?_toArray, List.getElem?_cons_succ, List.getElem?_cons_zero] at f0 f1 f2
    clear hb hB0 H0 x1 x2
    by_cases ha : a = 0
    · have HX : Hid (toldK 10 (some a) r1 = some a) := by show _ = _; simp [toldK, ha]
      have q1 : (a == 0) = true := by simpa using ha
      clear ha
      go_wp2_with fail
      go_ret
      refine (show Tld (toldK 10 (some a) r1) w _ _ from ?_)
      rw [HX.out]
      exact ⟨rfl, hB1⟩
    · have HX : Hid (toldK 10 (some a) r1 = r1) := by show _ = _; cases r1 <;> simp [toldK, ha]
      have q1 : (a == 0) = false := by simpa using ha
      clear ha
      go_wp2_with fail
      refine (H1.out _ hB1 z1 z2).mono ?_
      rintro e w2 he
      cases r1 with
      | none =>
        obtain ⟨rfl, hb⟩ := he
        have fin : ([] : List Deferred) = [] ∧ Tld (toldK 10 (some a) none) w (.panicked [{ v := .iface 63 (.int .i64 6), recovered := false }]) w2 := ⟨rfl, by rw [HX.out]; exact ⟨rfl, hB1.trans (hb.mono hB1.size)⟩⟩
        exact fin
      | some b =>
        obtain ⟨rfl, hb⟩ := he
        have hB2 := hB1.trans (hb.mono hB1.size)
        have z3 := z1.ext hb
        clear hb H1
        go_wp2_with fail
        go_ret
        refine (show Tld (toldK 10 (some a) (some b)) w _ _ from ?_)
        rw [HX.out]
        exact ⟨rfl, hB2⟩
set_option maxHeartbeats 1000000 in
theorem told_or (H0 : Hid (SubAt w 0 11 n vn vl sn scap vk vcap ad vad r0)) (H1 : Hid (SubAt w 1 11 n vn vl sn scap vk vcap ad vad r1)) :
    Calls Tryd.prog 36 #[.agg #[.int .i64 11, .int .i64 n, .slice ad sn scap], .agg #[.bool vl, .int .i64 vn, .slice vad vk vcap]] w (Tld (toldK 11 r0 r1) w) := by
  go_enter Tryd.func36, Tryd.ntmps36
  go_wp2_with fail
  have hB0 : Below w.heap.size w ((w.alloc (.cells #[.int .i64 11, .int .i64 n, .slice ad sn scap] 24)).alloc (.cells #[.bool vl, .int .i64 vn, .slice vad vk vcap] 27)) := by repeat (first | with_reducible assumption | with_reducible exact Below.refl _ _ | with_reducible apply Below.drew | (with_reducible refine Below.alloc ?_ (by first | omega | (simp only [World.size_alloc, size_setCell, size_drew, size_drewN]; omega) | (dsimp only; omega) | (simp only [World.size_alloc, size_setCell, size_drew, size_drewN]; dsimp only; omega)) _) | (with_reducible refine Below.setCell ?_ (by first | omega | (simp only [World.size_alloc, size_setCell, size_drew, size_drewN]; omega) | (dsimp only; omega) | (simp only [World.size_alloc, size_setCell, size_drew, size_drewN]; dsimp only; omega)) _) | (with_reducible apply below_drewN))
  have x1 : Blk ((w.alloc (.cells #[.int .i64 11, .int .i64 n, .slice ad sn scap] 24)).alloc (.cells #[.bool vl, .int .i64 vn, .slice vad vk vcap] 27)) w.heap.size #[.int .i64 11, .int .i64 n, .slice ad sn scap] 24 := (Blk.new _ _ _).alloc _
  have x2 : Blk ((w.alloc (.cells #[.int .i64 11, .int .i64 n, .slice ad sn scap] 24)).alloc (.cells #[.bool vl, .int .i64 vn, .slice vad vk vcap] 27)) (w.heap.size + 1) #[.bool vl, .int .i64 vn, .slice vad vk vcap] 27 := by have := Blk.new (w.alloc (.cells #[.int .i64 11, .int .i64 n, .slice ad sn scap] 24)) #[.bool vl, .int .i64 vn, .slice vad vk vcap] 27; simpa using this
  refine (H0.out _ hB0 x1 x2).mono ?_
  rintro e w1 he
  cases r0 with
  | none =>
    obtain ⟨rfl, hb⟩ := he
    have fin : ([] : List Deferred) = [] ∧ Tld none w (.panicked [{ v := .iface 63 (.int .i64 6), recovered := false }]) w1 := ⟨rfl, rfl, hB0.trans (hb.mono hB0.size)⟩
    exact fin
  | some a =>
    obtain ⟨rfl, hb⟩ := he
    have hB1 := hB0.trans (hb.mono hB0.size)
    have z1 := x1.ext hb
    have z2 := x2.ext hb
    have f0 := z1.cell 0
    have f1 := z1.cell 1
    have f2 := z1.cell 2
    simp only [List.getElem?_toArray, List.getElem?_cons_succ, List.getElem?_cons_zero] at f0 f1 f2
    clear hb hB0 H0 x1 x2
    by_cases ha : a ≠ 0
    · have HX : Hid (toldK 11 (some a) r1 = some a) := by show _ = _; simp [toldK, ha]
      have q1 : (a != 0) = true := by simpa using ha
      clear ha
      go_wp2_with fail
      go_ret
      refine (show Tld (toldK 11 (some a) r1) w _ _ from ?_)
      rw [HX.out]
      exact ⟨rfl, hB1⟩
    · have HX : Hid (toldK 11 (some a) r1 = r1) := by show _ = _; cases r1 <;> simp [toldK, ha]
      have q1 : (a != 0) = false := by simpa using ha
      clear ha
      go_wp2_with fail
      refine (H1.out _ hB1 z1 z2).mono ?_
      rintro e w2 he
      cases r1 with
      | none =>
        obtain ⟨rfl, hb⟩ := he
        have fin : ([] : List Deferred) = [] ∧ Tld (toldK 11 (some a) none) w (.panicked [{ v := .iface 63 (.int .i64 6), recovered := false }]) w2 := ⟨rfl, by rw [HX.out]; exact ⟨rfl, hB1.trans (hb.mono hB1.size)⟩⟩
        exact fin
      | some b =>
        obtain ⟨rfl, hb⟩ := he
        have hB2 := hB1.trans (hb.mono hB1.size)
        have z3 := z1.ext hb
        clear hb H1
        go_wp2_with fail
        go_ret
        refine (show Tld (toldK 11 (some a) (some b)) w _ _ from ?_)
        rw [HX.out]
        exact ⟨rfl, hB2⟩
set_option maxHeartbeats 1000000 in
theorem told_add (H0 : Hid (SubAt w 0 5 n vn vl sn scap vk vcap ad vad r0)) (H1 : Hid (SubAt w 1 5 n vn vl sn scap vk vcap ad vad r1)) :
    Calls Tryd.prog 36 #[.agg #[.int .i64 5, .int .i64 n, .slice ad sn scap], .agg #[.bool vl, .int .i64 vn, .slice vad vk vcap]] w (Tld (toldK 5 r0 r1) w) := by
  go_enter Tryd.func36, Tryd.ntmps36
  go_wp2_with fail
  have hB0 : Below w.heap.size w ((w.alloc (.cells #[.int .i64 5, .int .i64 n, .slice ad sn scap] 24)).alloc (.cells #[.bool vl, .int .i64 vn, .slice vad vk vcap] 27)) := by repeat (first | with_reducible assumption | with_reducible exact Below.refl _ _ | with_reducible apply Below.drew | (with_reducible refine Below.alloc ?_ (by first | omega | (simp only [World.size_alloc, size_setCell, size_drew, size_drewN]; omega) | (dsimp only; omega) | (simp only [World.size_alloc, size_setCell, size_drew, size_drewN]; dsimp only; omega)) _) | (with_reducible refine Below.setCell ?_ (by first | omega | (simp only [World.size_alloc, size_setCell, size_drew, size_drewN]; omega) | (dsimp only; omega) | (simp only [World.size_alloc, size_setCell, size_drew, size_drewN]; dsimp only; omega)) _) | (with_reducible apply below_drewN))
  have x1 : Blk ((w.alloc (.cells #[.int .i64 5, .int .i64 n, .slice ad sn scap] 24)).alloc (.cells #[.bool vl, .int .i64 vn, .slice vad vk vcap] 27)) w.heap.size #[.int .i64 5, .int .i64 n, .slice ad sn scap] 24 := (Blk.new _ _ _).alloc _
  have x2 : Blk ((w.alloc (.cells #[.int .i64 5, .int .i64 n, .slice ad sn scap] 24)).alloc (.cells #[.bool vl, .int .i64 vn, .slice vad vk vcap] 27)) (w.heap.size + 1) #[.bool vl, .int .i64 vn, .slice vad vk vcap] 27 := by have := Blk.new (w.alloc (.cells #[.int .i64 5, .int .i64 n, .slice ad sn scap] 24)) #[.bool vl, .int .i64 vn, .slice vad vk vcap] 27; simpa using this
  refine (H0.out _ hB0 x1 x2).mono ?_
  rintro e w1 he
  cases r0 with
  | none =>
    obtain ⟨rfl, hb⟩ := he
    have fin : ([] : List Deferred) = [] ∧ Tld none w (.panicked [{ v := .iface 63 (.int .i64 6), recovered := false }]) w1 := ⟨rfl, rfl, hB0.trans (hb.mono hB0.size)⟩
    exact fin
  | some a =>
    obtain ⟨rfl, hb⟩ := he
    have hB1 := hB0.trans (hb.mono hB0.size)
    have z1 := x1.ext hb
    have z2 := x2.ext hb
    have f0 := z1.cell 0
    have f1 := z1.cell 1
    have f2 := z1.cell 2
    simp only [List.getElem?_toArray, List.getElem?_cons_succ, List.getElem?_cons_zero] at f0 f1 f2
    clear hb hB0 H0 x1 x2
    have HX0 : Hid (toldK 5 (some a) none = none) := by show _ = _; simp [toldK]
    have HXS : Hid (∀ b, toldK 5 (some a) (some b) = some (wrap64 (a + b))) := by show ∀ b, _ = _; intro b; simp [toldK]
    go_wp2_with fail
    refine (H1.out _ hB1 z1 z2).mono ?_
    rintro e w2 he
    cases r1 with
    | none =>
      obtain ⟨rfl, hb⟩ := he
      have fin : ([] : List Deferred) = [] ∧ Tld (toldK 5 (some a) none) w (.panicked [{ v := .iface 63 (.int .i64 6), recovered := false }]) w2 := ⟨rfl, by rw [HX0.out]; exact ⟨rfl, hB1.trans (hb.mono hB1.size)⟩⟩
      exact fin
    | some b =>
      obtain ⟨rfl, hb⟩ := he
      have hB2 := hB1.trans (hb.mono hB1.size)
      have z3 := z1.ext hb
      clear f0 f1 f2
      have f0 := z3.cell 0
      have f1 := z3.cell 1
      have f2 := z3.cell 2
      simp only [List.getElem?_toArray, List.getElem?_cons_succ, List.getElem?_cons_zero] at f0 f1 f2
      clear hb H1
      have HX := Lib.hid (HXS.out b)
      clear HXS HX0
      go_wp2_with fail
      go_ret
      refine (show Tld (toldK 5 (some a) (some b)) w _ _ from ?_)
      rw [HX.out]
      exact ⟨rfl, hB2⟩
set_option maxHeartbeats 1000000 in
theorem told_rem (H0 : Hid (SubAt w 0 6 n vn vl sn scap vk vcap ad vad r0)) (H1 : Hid (SubAt w 1 6 n vn vl sn scap vk vcap ad vad r1)) :
    Calls Tryd.prog 36 #[.agg #[.int .i64 6, .int .i64 n, .slice ad sn scap], .agg #[.bool vl, .int .i64 vn, .slice vad vk vcap]] w (Tld (toldK 6 r0 r1) w) := by
  go_enter Tryd.func36, Tryd.ntmps36
  go_wp2_with fail
  have hB0 : Below w.heap.size w ((w.alloc (.cells #[.int .i64 6, .int .i64 n, .slice ad sn scap] 24)).alloc (.cells #[.bool vl, .int .i64 vn, .slice vad vk vcap] 27)) := by repeat (first | with_reducible assumption | with_reducible exact Below.refl _ _ | with_reducible apply Below.drew | (with_reducible refine Below.alloc ?_ (by first | omega | (simp only [World.size_alloc, size_setCell, size_drew, size_drewN]; omega) | (dsimp only; omega) | (simp only [World.size_alloc, size_setCell, size_drew, size_drewN]; dsimp only; omega)) _) | (with_reducible refine Below.setCell ?_ (by first | omega | (simp only [World.size_alloc, size_setCell, size_drew, size_drewN]; omega) | (dsimp only; omega) | (simp only [World.size_alloc, size_setCell, size_drew, size_drewN]; dsimp only; omega)) _) | (with_reducible apply below_drewN))
  have x1 : Blk ((w.alloc (.cells #[.int .i64 6, .int .i64 n, .slice ad sn scap] 24)).alloc (.cells #[.bool vl, .int .i64 vn, .slice vad vk vcap] 27)) w.heap.size #[.int .i64 6, .int .i64 n, .slice ad sn scap] 24 := (Blk.new _ _ _).alloc _
  have x2 : Blk ((w.alloc (.cells #[.int .i64 6, .int .i64 n, .slice ad sn scap] 24)).alloc (.cells #[.bool vl, .int .i64 vn, .slice vad vk vcap] 27)) (w.heap.size + 1) #[.bool vl, .int .i64 vn, .slice vad vk vcap] 27 := by have := Blk.new (w.alloc (.cells #[.int .i64 6, .int .i64 n, .slice ad sn scap] 24)) #[.bool vl, .int .i64 vn, .slice vad vk vcap] 27; simpa using this
  refine (H0.out _ hB0 x1 x2).mono ?_
  rintro e w1 he
  cases r0 with
  | none =>
    obtain ⟨rfl, hb⟩ := he
    have fin : ([] : List Deferred) = [] ∧ Tld none w (.panicked [{ v := .iface 63 (.int .i64 6), recovered := false }]) w1 := ⟨rfl, rfl, hB0.trans (hb.mono hB0.size)⟩
    exact fin
  | some a =>
    obtain ⟨rfl, hb⟩ := he
    have hB1 := hB0.trans (hb.mono hB0.size)
    have z1 := x1.ext hb
    have z2 := x2.ext hb
    have f0 := z1.cell 0
    have f1 := z1.cell 1
    have f2 := z1.cell 2
    simp only [List.getElem?_toArray, List.getElem?_cons_succ, List.getElem?_cons_zero] at f0 f1 f2
    clear hb hB0 H0 x1 x2
    have HX0 : Hid (toldK 6 (some a) none = none) := by show _ = _; simp [toldK]
    have HXS : Hid (∀ b, toldK 6 (some a) (some b) = if b = 0 then none else some (a.tmod b)) := by show ∀ b, _ = _; intro b; simp [toldK]
    go_wp2_with fail
    refine (H1.out _ hB1 z1 z2).mono ?_
    rintro e w2 he
    cases r1 with
    | none =>
      obtain ⟨rfl, hb⟩ := he
      have fin : ([] : List Deferred) = [] ∧ Tld (toldK 6 (some a) none) w (.panicked [{ v := .iface 63 (.int .i64 6), recovered := false }]) w2 := ⟨rfl, by rw [HX0.out]; exact ⟨rfl, hB1.trans (hb.mono hB1.size)⟩⟩
      exact fin
    | some b =>
      obtain ⟨rfl, hb⟩ := he
      have hB2 := hB1.trans (hb.mono hB1.size)
      have z3 := z1.ext hb
      clear f0 f1 f2
      have f0 := z3.cell 0
      have f1 := z3.cell 1
      have f2 := z3.cell 2
      simp only [List.getElem?_toArray, List.getElem?_cons_succ, List.getElem?_cons_zero] at f0 f1 f2
      clear hb H1
      have HX := Lib.hid (HXS.out b)
      clear HXS HX0
      by_cases hb0 : b = 0
      · have HY : Hid (toldK 6 (some a) (some b) = none) := HX.out.trans (if_pos hb0)
        have q1 : (b == 0) = true := by simpa using hb0
        clear hb0 HX
        go_wp2_with fail
        refine ⟨rfl, (show Tld (toldK 6 (some a) (some b)) w _ _ from ?_)⟩
        rw [HY.out]
        exact ⟨rfl, hB2⟩
      · have HY : Hid (toldK 6 (some a) (some b) = some (a.tmod b)) := HX.out.trans (if_neg hb0)
        have q1 : (b == 0) = false := by simpa using hb0
        clear HX
        go_wp2_with fail
        go_ret
        refine (show Tld (toldK 6 (some a) (some b)) w _ _ from ?_)
        rw [HY.out]
        exact ⟨rfl, hB2⟩
set_option maxHeartbeats 1000000 in
theorem told_less (H0 : Hid (SubAt w 0 7 n vn vl sn scap vk vcap ad vad r0)) (H1 : Hid (SubAt w 1 7 n vn vl sn scap vk vcap ad vad r1)) :
    Calls Tryd.prog 36 #[.agg #[.int .i64 7, .int .i64 n, .slice ad sn scap], .agg #[.bool vl, .int .i64 vn, .slice vad vk vcap]] w (Tld (toldK 7 r0 r1) w) := by
  go_enter Tryd.func36, Tryd.ntmps36
  go_wp2_with fail
  have hB0 : Below w.heap.size w ((w.alloc (.cells #[.int .i64 7, .int .i64 n, .slice ad sn scap] 24)).alloc (.cells #[.bool vl, .int .i64 vn, .slice vad vk vcap] 27)) := by repeat (first | with_reducible assumption | with_reducible exact Below.refl _ _ | with_reducible apply Below.drew | (with_reducible refine Below.alloc ?_ (by first | omega | (simp only [World.size_alloc, size_setCell, size_drew, size_drewN]; omega) | (dsimp only; omega) | (simp only [World.size_alloc, size_setCell, size_drew, size_drewN]; dsimp only; omega)) _) | (with_reducible refine Below.setCell ?_ (by first | omega | (simp only [World.size_alloc, size_setCell, size_drew, size_drewN]; omega) | (dsimp only; omega) | (simp only [World.size_alloc, size_setCell, size_drew, size_drewN]; dsimp only; omega)) _) | (with_reducible apply below_drewN))
  have x1 : Blk ((w.alloc (.cells #[.int .i64 7, .int .i64 n, .slice ad sn scap] 24)).alloc (.cells #[.bool vl, .int .i64 vn, .slice vad vk vcap] 27)) w.heap.size #[.int .i64 7, .int .i64 n, .slice ad sn scap] 24 := (Blk.new _ _ _).alloc _
  have x2 : Blk ((w.alloc (.cells #[.int .i64 7, .int .i64 n, .slice ad sn scap] 24)).alloc (.cells #[.bool vl, .int .i64 vn, .slice vad vk vcap] 27)) (w.heap.size + 1) #[.bool vl, .int .i64 vn, .slice vad vk vcap] 27 := by have := Blk.new (w.alloc (.cells #[.int .i64 7, .int .i64 n, .slice ad sn scap] 24)) #[.bool vl, .int .i64 vn, .slice vad vk vcap] 27; simpa using this
  refine (H0.out _ hB0 x1 x2).mono ?_
  rintro e w1 he
  cases r0 with
  | none =>
    obtain ⟨rfl, hb⟩ := he
    have fin : ([] : List Deferred) = [] ∧ Tld none w (.panicked [{ v := .iface 63 (.int .i64 6), recovered := false }]) w1 := ⟨rfl, rfl, hB0.trans (hb.mono hB0.size)⟩
    exact fin
  | some a =>
    obtain ⟨rfl, hb⟩ := he
    have hB1 := hB0.trans (hb.mono hB0.size)
    have z1 := x1.ext hb
    have z2 := x2.ext hb
    have f0 := z1.cell 0
    have f1 := z1.cell 1
    have f2 := z1.cell 2
    simp only [List.getElem?_toArray, List.getElem?_cons_succ, List.getElem?_cons_zero] at f0 f1 f2
    clear hb hB0 H0 x1 x2
    have HX0 : Hid (toldK 7 (some a) none = none) := by show _ = _; simp [toldK]
    have HXS : Hid (∀ b, toldK 7 (some a) (some b) = some (truth (decide (a < b)))) := by show ∀ b, _ = _; intro b; simp [toldK]
    go_wp2_with fail
    refine (H1.out _ hB1 z1 z2).mono ?_
    rintro e w2 he
    cases r1 with
    | none =>
      obtain ⟨rfl, hb⟩ := he
      have fin : ([] : List Deferred) = [] ∧ Tld (toldK 7 (some a) none) w (.panicked [{ v := .iface 63 (.int .i64 6), recovered := false }]) w2 := ⟨rfl, by rw [HX0.out]; exact ⟨rfl, hB1.trans (hb.mono hB1.size)⟩⟩
      exact fin
    | some b =>
      obtain ⟨rfl, hb⟩ := he
      have hB2 := hB1.trans (hb.mono hB1.size)
      have z3 := z1.ext hb
      clear f0 f1 f2
      have f0 := z3.cell 0
      have f1 := z3.cell 1
      have f2 := z3.cell 2
      simp only [List.getElem?_toArray, List.getElem?_cons_succ, List.getElem?_cons_zero] at f0 f1 f2
      clear hb H1
      have HX := Lib.hid (HXS.out b)
      clear HXS HX0
      go_wp2_with fail
      refine (truth_any _ _).mono ?_
      rintro e w4 ⟨rfl, rfl⟩
      go_wp2_with fail
      go_ret
      refine (show Tld (toldK 7 (some a) (some b)) w _ _ from ?_)
      rw [HX.out]
      exact ⟨rfl, hB2⟩
set_option maxHeartbeats 1000000 in
theorem told_same (H0 : Hid (SubAt w 0 8 n vn vl sn scap vk vcap ad vad r0)) (H1 : Hid (SubAt w 1 8 n vn vl sn scap vk vcap ad vad r1)) :
    Calls Tryd.prog 36 #[.agg #[.int .i64 8, .int .i64 n, .slice ad sn scap], .agg #[.bool vl, .int .i64 vn, .slice vad vk vcap]] w (Tld (toldK 8 r0 r1) w) := by
  go_enter Tryd.func36, Tryd.ntmps36
  go_wp2_with fail
  have hB0 : Below w.heap.size w ((w.alloc (.cells #[.int .i64 8, .int .i64 n, .slice ad sn scap] 24)).alloc (.cells #[.bool vl, .int .i64 vn, .slice vad vk vcap] 27)) := by repeat (first | with_reducible assumption | with_reducible exact Below.refl _ _ | with_reducible apply Below.drew | (with_reducible refine Below.alloc ?_ (by first | omega | (simp only [World.size_alloc, size_setCell, size_drew, size_drewN]; omega) | (dsimp only; omega) | (simp only [World.size_alloc, size_setCell, size_drew, size_drewN]; dsimp only; omega)) _) | (with_reducible refine Below.setCell ?_ (by first | omega | (simp only [World.size_alloc, size_setCell, size_drew, size_drewN]; omega) | (dsimp only; omega) | (simp only [World.size_alloc, size_setCell, size_drew, size_drewN]; dsimp only; omega)) _) | (with_reducible apply below_drewN))
  have x1 : Blk ((w.alloc (.cells #[.int .i64 8, .int .i64 n, .slice ad sn scap] 24)).alloc (.cells #[.bool vl, .int .i64 vn, .slice vad vk vcap] 27)) w.heap.size #[.int .i64 8, .int .i64 n, .slice ad sn scap] 24 := (Blk.new _ _ _).alloc _
  have x2 : Blk ((w.alloc (.cells #[.int .i64 8, .int .i64 n, .slice ad sn scap] 24)).alloc (.cells #[.bool vl, .int .i64 vn, .slice vad vk vcap] 27)) (w.heap.size + 1) #[.bool vl, .int .i64 vn, .slice vad vk vcap] 27 := by have := Blk.new (w.alloc (.cells #[.int .i64 8, .int .i64 n, .slice ad sn scap] 24)) #[.bool vl, .int .i64 vn, .slice vad vk vcap] 27; simpa using this
  refine (H0.out _ hB0 x1 x2).mono ?_
  rintro e w1 he
  cases r0 with
  | none =>
    obtain ⟨rfl, hb⟩ := he
    have fin : ([] : List Deferred) = [] ∧ Tld none w (.panicked [{ v := .iface 63 (.int .i64 6), recovered := false }]) w1 := ⟨rfl, rfl, hB0.trans (hb.mono hB0.size)⟩
    exact fin
  | some a =>
    obtain ⟨rfl, hb⟩ := he
    have hB1 := hB0.trans (hb.mono hB0.size)
    have z1 := x1.ext hb
    have z2 := x2.ext hb
    have f0 := z1.cell 0
    have f1 := z1.cell 1
    have f2 := z1.cell 2
    simp only [List.getElem?_toArray, List.getElem?_cons_succ, List.getElem?_cons_zero] at f0 f1 f2
    clear hb hB0 H0 x1 x2
    have HX0 : Hid (toldK 8 (some a) none = none) := by show _ = _; simp [toldK]
    have HXS : Hid (∀ b, toldK 8 (some a) (some b) = some (truth (a == b))) := by show ∀ b, _ = _; intro b; simp [toldK]
    go_wp2_with fail
    refine (H1.out _ hB1 z1 z2).mono ?_
    rintro e w2 he
    cases r1 with
    | none =>
      obtain ⟨rfl, hb⟩ := he
      have fin : ([] : List Deferred) = [] ∧ Tld (toldK 8 (some a) none) w (.panicked [{ v := .iface 63 (.int .i64 6), recovered := false }]) w2 := ⟨rfl, by rw [HX0.out]; exact ⟨rfl, hB1.trans (hb.mono hB1.size)⟩⟩
      exact fin
    | some b =>
      obtain ⟨rfl, hb⟩ := he
      have hB2 := hB1.trans (hb.mono hB1.size)
      have z3 := z1.ext hb
      clear f0 f1 f2
      have f0 := z3.cell 0
      have f1 := z3.cell 1
      have f2 := z3.cell 2
      simp only [List.getElem?_toArray, List.getElem?_cons_succ, List.getElem?_cons_zero] at f0 f1 f2
      clear hb H1
      have HX := Lib.hid (HXS.out b)
      clear HXS HX0
      go_wp2_with fail
      refine (truth_any _ _).mono ?_
      rintro e w4 ⟨rfl, rfl⟩
      go_wp2_with fail
      go_ret
      refine (show Tld (toldK 8 (some a) (some b)) w _ _ from ?_)
      rw [HX.out]
      exact ⟨rfl, hB2⟩
end
end Go.Proofs.YtcecpggkeaohnaaDoor
