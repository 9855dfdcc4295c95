/- Plain data: expressions, and what they tell of a value. Plain laws of expressions. How expressions lie in memory; what lies there fits in 64 bits. The walks through an expression's parts. The walks through an expression's check. The walks through what an expression tells: the numbers of a value. The walks through what an expression tells: the two closures that are called with each number. -/
import Derived.Test.YtibmnifenfingaaGreatDoorPEX
import Derived.Test.YtibmnifenfingaaGreatDoorPMV
import Derived.RowKit
import Derived.Test.YtibmnifenfingaaGreatDoorBase
import Derived.Test.YtibmnifenfingaaGreatDoorMAD
import Derived.Test.YtibmnifenfingaaGreatDoorGENC
namespace Go.Proofs.YtibmnifenfingaaGreatDoor
set_option maxRecDepth 100000
open Go.RowKit
set_option linter.unusedSimpArgs false
set_option linter.unusedVariables false
/-- An expression: three cells, the last one a slice of expressions. -/
inductive ExprAt (w : World) : Value → ET → Prop
  | mk {k n : Int} {s : List ET} {ad : Option Addr} {cap : Nat} (hk : In64 k) (hn : In64 n) (hl : s.length ≤ cap) (hm : cap ≤ 9223372036854775807) (vs : Nat → Value)
      (cells : 0 < s.length → ∃ bl off, ad = some ⟨bl, off, none⟩ ∧ bl < w.heap.size ∧ ∀ i, i < s.length → ∃ c0 c1 c2, vs i = .agg #[c0, c1, c2] ∧ w.cell? ⟨bl, off + i * 3, none⟩ = some c0 ∧
        w.cell? ⟨bl, off + i * 3 + 1, none⟩ = some c1 ∧ w.cell? ⟨bl, off + i * 3 + 2, none⟩ = some c2)
      (kids : ∀ i (h : i < s.length), ExprAt w (vs i) s[i]) : ExprAt w (.agg #[.int .i64 k, .int .i64 n, .slice ad s.length cap]) (.mk k n s)
theorem ExprAt.ext {w w' : World} {v : Value} {g : ET} (h : ExprAt w v g) (hb : Below w.heap.size w w') : ExprAt w' v g := by
  induction h with
  | mk hk hn hl hm vs cells kids ih =>
    refine .mk hk hn hl hm vs (fun hp => ?_) (fun i hi => ih i hi)
    obtain ⟨bl, off, e, hlt, hc⟩ := cells hp
    refine ⟨bl, off, e, Nat.lt_of_lt_of_le hlt hb.size, fun i hi => ?_⟩
    obtain ⟨c0, c1, c2, hv, h0, h1, h2⟩ := hc i hi
    exact ⟨c0, c1, c2, hv, (hb.cell (p := ⟨bl, _, none⟩) hlt).trans h0, (hb.cell (p := ⟨bl, _, none⟩) hlt).trans h1, (hb.cell (p := ⟨bl, _, none⟩) hlt).trans h2⟩
/-- A slice of expressions. -/
structure ExprsAt (w : World) (ad : Option Addr) (s : List ET) : Prop where
  at' : 0 < s.length → ∃ bl off, ad = some ⟨bl, off, none⟩ ∧ bl < w.heap.size ∧ ∀ i (h : i < s.length), ∃ k n t ad' cap, w.cell? ⟨bl, off + i * 3, none⟩ = some (.int .i64 k) ∧
        w.cell? ⟨bl, off + i * 3 + 1, none⟩ = some (.int .i64 n) ∧ w.cell? ⟨bl, off + i * 3 + 2, none⟩ = some (.slice ad' t cap) ∧
        ExprAt w (.agg #[.int .i64 k, .int .i64 n, .slice ad' t cap]) s[i]
theorem ExprAt.shape {w : World} {v : Value} {g : ET} (h : ExprAt w v g) : ∃ k n t ad cap, v = .agg #[.int .i64 k, .int .i64 n, .slice ad t cap] := by
  cases h; exact ⟨_, _, _, _, _, rfl⟩
theorem ExprAt.form {w : World} {v : Value} {g : ET} (h : ExprAt w v g) : ∃ k n s ad cap, g = .mk k n s ∧ v = .agg #[.int .i64 k, .int .i64 n, .slice ad s.length cap] ∧ In64 k ∧ In64 n ∧ s.length ≤ cap ∧ cap ≤ 9223372036854775807 ∧ ExprsAt w ad s := by
  cases h with
  | mk hk hn hl hm vs cells kids =>
    refine ⟨_, _, _, _, _, rfl, rfl, hk, hn, hl, hm, ⟨fun hp => ?_⟩⟩
    obtain ⟨bl, off, e, hlt, hc⟩ := cells hp
    refine ⟨bl, off, e, hlt, fun i hi => ?_⟩
    obtain ⟨c0, c1, c2, hv, h0, h1, h2⟩ := hc i hi
    obtain ⟨k', n', t, ad', cap', he⟩ := (kids i hi).shape
    have hk := kids i hi
    rw [hv] at he
    rw [hv] at hk
    simp only [Value.agg.injEq] at he
    have e0 := congrArg (fun z : Array Value => z[0]?) he
    have e1 := congrArg (fun z : Array Value => z[1]?) he
    have e2 := congrArg (fun z : Array Value => z[2]?) he
    simp at e0 e1 e2
    subst e0 e1 e2
    exact ⟨_, _, _, _, _, h0, h1, h2, hk⟩
theorem ExprsAt.ext {w w' : World} {ad : Option Addr} {s : List ET} (h : ExprsAt w ad s) (hb : Below w.heap.size w w') : ExprsAt w' ad s := by
  refine ⟨fun hp => ?_⟩
  obtain ⟨bl, off, e, hlt, hc⟩ := h.at' hp
  refine ⟨bl, off, e, Nat.lt_of_lt_of_le hlt hb.size, fun i hi => ?_⟩
  obtain ⟨k, n, t, ad', cap, h0, h1, h2, hg⟩ := hc i hi
  exact ⟨k, n, t, ad', cap, (hb.cell (p := ⟨bl, _, none⟩) hlt).trans h0, (hb.cell (p := ⟨bl, _, none⟩) hlt).trans h1, (hb.cell (p := ⟨bl, _, none⟩) hlt).trans h2, hg.ext hb⟩
theorem ExprAt.make {w : World} {k n : Int} {s : List ET} {ad : Option Addr} {cap : Nat} (hk : In64 k) (hn : In64 n) (hl : s.length ≤ cap) (hm : cap ≤ 9223372036854775807) (h : ExprsAt w ad s) :
    ExprAt w (.agg #[.int .i64 k, .int .i64 n, .slice ad s.length cap]) (.mk k n s) := by
  by_cases hp : 0 < s.length
  · obtain ⟨bl, off, e, hlt, hc⟩ := h.at' hp
    have hch : ∀ i : Nat, ∃ v : Value, ∀ hi : i < s.length, (∃ c0 c1 c2, v = .agg #[c0, c1, c2] ∧ w.cell? ⟨bl, off + i * 3, none⟩ = some c0 ∧ w.cell? ⟨bl, off + i * 3 + 1, none⟩ = some c1 ∧ w.cell? ⟨bl, off + i * 3 + 2, none⟩ = some c2) ∧ ExprAt w v s[i] := by
      intro i
      by_cases hi : i < s.length
      · obtain ⟨k, n, t, ad', cap, h0, h1, h2, hg⟩ := hc i hi
        exact ⟨_, fun _ => ⟨⟨_, _, _, rfl, h0, h1, h2⟩, hg⟩⟩
      · exact ⟨.nilIface, fun h => absurd h hi⟩
    refine .mk hk hn hl hm (fun i => (hch i).choose) (fun _ => ⟨bl, off, e, hlt, fun i hi => ((hch i).choose_spec hi).1⟩) (fun i hi => ((hch i).choose_spec hi).2)
  · exact .mk hk hn hl hm (fun _ => .nilIface) (fun h => absurd h hp) (fun i hi => absurd (Nat.lt_of_le_of_lt (Nat.zero_le _) hi) hp)
theorem ExprAt.leaf {w : World} (k n : Int) (hk : In64 k) (hn : In64 n) : ExprAt w (.agg #[.int .i64 k, .int .i64 n, .slice none 0 0]) (.mk k n []) :=
  ExprAt.make (s := []) hk hn (by simp) (by simp) ⟨fun h => absurd h (by simp)⟩
/-- Two, one behind the other in a block; one. -/
theorem exprs_two {w : World} {b : Nat} {k n k' n' : Int} {t t' cap cap' : Nat} {ad ad' : Option Addr} {x y : ET} (hb : Blk w b #[.int .i64 k, .int .i64 n, .slice ad t cap, .int .i64 k', .int .i64 n', .slice ad' t' cap'] 27)
    (hx : ExprAt w (.agg #[.int .i64 k, .int .i64 n, .slice ad t cap]) x) (hy : ExprAt w (.agg #[.int .i64 k', .int .i64 n', .slice ad' t' cap']) y) : ExprsAt w (some ⟨b, 0, none⟩) [x, y] := by
  refine ⟨fun _ => ⟨b, 0, rfl, hb.lt, fun i hi => ?_⟩⟩
  have : i = 0 ∨ i = 1 := by simp at hi; omega
  rcases this with rfl | rfl
  · exact ⟨k, n, t, ad, cap, hb.cell 0, hb.cell 1, hb.cell 2, hx⟩
  · exact ⟨k', n', t', ad', cap', hb.cell 3, hb.cell 4, hb.cell 5, hy⟩
theorem exprs_one {w : World} {b : Nat} {k n : Int} {t cap : Nat} {ad : Option Addr} {x : ET} (hb : Blk w b #[.int .i64 k, .int .i64 n, .slice ad t cap] 27)
    (hx : ExprAt w (.agg #[.int .i64 k, .int .i64 n, .slice ad t cap]) x) : ExprsAt w (some ⟨b, 0, none⟩) [x] := by
  refine ⟨fun _ => ⟨b, 0, rfl, hb.lt, fun i hi => ?_⟩⟩
  have : i = 0 := by simpa using hi
  subst this
  exact ⟨k, n, t, ad, cap, hb.cell 0, hb.cell 1, hb.cell 2, hx⟩
theorem ExprAt.fit {w : World} {v : Value} {g : ET} (h : ExprAt w v g) : ET.Fit g := by
  induction h with
  | mk hk hn hl hm vs cells kids ih =>
    refine ⟨hn, (ET.fitL_mem _).2 fun x hx => ?_⟩
    obtain ⟨i, hi, rfl⟩ := List.getElem_of_mem hx
    exact ih i hi
theorem ValIn.fit {S : Nat → Prop} {w : World} {v : Value} {t : VT} (h : ValIn S w v t) : VT.Fit t := by
  induction h with
  | mk hn hl hm vs cells kids ih =>
    refine ⟨hn, by omega, (VT.fitL_mem _).2 fun x hx => ?_⟩
    obtain ⟨i, hi, rfl⟩ := List.getElem_of_mem hx
    exact ih i hi
end Go.Proofs.YtibmnifenfingaaGreatDoor
namespace Go.Proofs.YtibmnifenfingaaGreatDoor
set_option maxRecDepth 100000
open Go.RowKit
set_option linter.unusedSimpArgs false
set_option linter.unusedVariables false
theorem below_drewN {b : Nat} {w w' : World} {n : Nat} (h : Below b w w') : Below b w (w'.drewN n) := h.trans ⟨rfl, rfl, rfl, Nat.le_refl _, fun _ _ => rfl⟩
/-- The table of how many lie in each kind. -/
def TakesAt (w : World) : Prop := ∀ k : Nat, k < 12 → w.cell? ⟨0, k, none⟩ = some (.int .i64 (ET.takes k))
theorem TakesAt.ext {w w' : World} (h : TakesAt w) (hb : Below w.heap.size w w') : TakesAt w' := fun k hk => by
  have h1 := h k hk
  rw [hb.cell (p := ⟨0, k, none⟩) (World.block_lt_of_cell? w _ h1)]
  exact h1
set_option maxHeartbeats 4000000 in
theorem xparts_any (g : ET) : ∀ (d : Nat) (v : Value) (w : World), d ≤ 6 → ExprAt w v g → Calls Tryz.prog 48 #[v, .int .i64 d] w fun e w' => e = .returned (.int .i64 (ET.parts g d)) ∧ Below w.heap.size w w' := by
  induction g using ET.ind with
  | h k n s ih =>
    intro d v w hd hg
    obtain ⟨k', n', s', ad, cap, hmk, rfl, hk, hn, hl, hm, hs⟩ := hg.form
    obtain ⟨rfl, rfl, rfl⟩ := ET.mk.inj hmk
    clear hg hmk
    have IH := Lib.hid ih
    clear ih
    by_cases h6 : 6 ≤ d
    · have hr : ET.parts (.mk k n s) d = 31 := by simp [ET.parts, h6]
      rw [hr]
      have z1 : (6 : Int) ≤ (d : Int) := by omega
      clear h6 hr
      go_enter Tryz.func48, Tryz.ntmps48
      go_wp2_with fail
      go_ret
      exact ⟨rfl, by repeat (first | with_reducible assumption | with_reducible exact Below.refl _ _ | with_reducible apply Below.drew | (with_reducible refine Below.alloc ?_ (by first | omega | (simp only [zA, zS, zD, zN]; omega) | (dsimp only; omega) | (simp only [zA, zS, zD, zN]; dsimp only; omega)) _) | (with_reducible refine Below.setCell ?_ (by first | omega | (simp only [zA, zS, zD, zN]; omega) | (dsimp only; omega) | (simp only [zA, zS, zD, zN]; dsimp only; omega)) _) | (with_reducible apply below_drewN))⟩
    · have HP : Hid (ET.parts (.mk k n s) d = ET.partsL (s.drop 0) d 1) := by show _ = _; simp [ET.parts, h6]
      have z1 : ¬ (6 : Int) ≤ (d : Int) := by omega
      have hd6 : d < 6 := by omega
      clear h6
      go_enter Tryz.func48, Tryz.ntmps48
      go_wp2_with fail
      generalize hW0 : w.alloc (.cells #[.int .i64 k, .int .i64 n, .slice ad s.length cap] 27) = W0
      have hB0 : Below w.heap.size w W0 := by rw [← hW0]; repeat (first | with_reducible assumption | with_reducible exact Below.refl _ _ | with_reducible apply Below.drew | (with_reducible refine Below.alloc ?_ (by first | omega | (simp only [zA, zS, zD, zN]; omega) | (dsimp only; omega) | (simp only [zA, zS, zD, zN]; dsimp only; omega)) _) | (with_reducible refine Below.setCell ?_ (by first | omega | (simp only [zA, zS, zD, zN]; omega) | (dsimp only; omega) | (simp only [zA, zS, zD, zN]; dsimp only; omega)) _) | (with_reducible apply below_drewN))
      have hs1 := hs.ext hB0
      clear hs hW0
      go_loopw [5, 13] (fun q i wr => ∃ (j r : Nat), j ≤ s.length ∧ q = .int .i64 r ∧ i = .int .i64 j ∧ r ≤ 30 ∧ Below W0.heap.size W0 wr ∧ Hid (ET.partsL (s.drop 0) d 1 = ET.partsL (s.drop j) d r)) (fun _ i _ => s.length - (intOf i).toNat)
      case atStart => exact ⟨0, 1, by omega, rfl, rfl, by omega, Below.refl _ _, rfl⟩
      case round =>
        obtain ⟨j, r, hj, rfl, rfl, hr30, hb2, HE⟩ := hrel
        have hzr := hb2.size
        have hz0 := hB0.size
        have hBr : Below w.heap.size w wr := hB0.trans (hb2.mono hB0.size)
        by_cases hlt : j < s.length
        · have p0 : (0 : Int) ≤ (j : Int) := by omega
          have p1 : (j : Int) < (s.length : Int) := by omega
          obtain ⟨bl, off, rfl, hlt1, hc⟩ := (hs1.ext hb2).at' (by omega)
          obtain ⟨k2, n2, t2, ad2, cap2, c0, c1, c2, hg2⟩ := hc j hlt
          clear hc hs1
          have CK := Lib.hid (fun W hW => IH.out s[j] (List.getElem_mem hlt) (d + 1) (.agg #[.int .i64 k2, .int .i64 n2, .slice ad2 t2 cap2]) W (by omega) (hg2.ext hW))
          have HST := Lib.hid (ET.partsL_step s d j hlt r)
          have hkl := ET.parts_le s[j] (d + 1) (by omega)
          generalize ET.parts s[j] (d + 1) = kn at *
          have ec : ((d + 1 : Nat) : Int) = (d : Int) + 1 := by omega
          rw [ec] at CK
          have hkl2 : kn ≤ 300 := by omega
          go_wp2_with fail
          refine (CK.out _ (by repeat (first | with_reducible assumption | with_reducible exact Below.refl _ _ | with_reducible apply Below.drew | (with_reducible refine Below.alloc ?_ (by first | omega | (simp only [zA, zS, zD, zN]; omega) | (dsimp only; omega) | (simp only [zA, zS, zD, zN]; dsimp only; omega)) _) | (with_reducible refine Below.setCell ?_ (by first | omega | (simp only [zA, zS, zD, zN]; omega) | (dsimp only; omega) | (simp only [zA, zS, zD, zN]; dsimp only; omega)) _) | (with_reducible apply below_drewN)))).mono ?_
          rintro e w3 ⟨rfl, hb3⟩
          have hB3 : Below W0.heap.size W0 w3 := Below.trans (by repeat (first | with_reducible assumption | with_reducible exact Below.refl _ _ | with_reducible apply Below.drew | (with_reducible refine Below.alloc ?_ (by first | omega | (simp only [zA, zS, zD, zN]; omega) | (dsimp only; omega) | (simp only [zA, zS, zD, zN]; dsimp only; omega)) _) | (with_reducible refine Below.setCell ?_ (by first | omega | (simp only [zA, zS, zD, zN]; omega) | (dsimp only; omega) | (simp only [zA, zS, zD, zN]; dsimp only; omega)) _) | (with_reducible apply below_drewN))) (hb3.mono (by first | omega | (simp only [zA, zS, zD, zN]; omega) | (dsimp only; omega) | (simp only [zA, zS, zD, zN]; dsimp only; omega)))
          clear hb3
          by_cases h30 : 30 < r + kn
          · have h30' : (30 : Int) < (r : Int) + (kn : Int) := by omega
            have HX : Hid (ET.parts (.mk k n s) d = r + kn) := by
              have h1 := HST.out
              rw [if_pos h30] at h1
              exact HP.out.trans (HE.out.trans h1)
            clear h30
            go_wp2_with fail
            go_ret
            exact ⟨by rw [HX.out]; simp, hB0.trans (hB3.mono hB0.size)⟩
          · have h30' : ¬ (30 : Int) < (r : Int) + (kn : Int) := by omega
            have HX : Hid (ET.partsL (s.drop 0) d 1 = ET.partsL (s.drop (j + 1)) d (r + kn)) := by
              have h1 := HST.out
              rw [if_neg h30] at h1
              exact HE.out.trans h1
            have h31 : r + kn ≤ 30 := by omega
            clear h30
            go_wp2_with fail
            exact ⟨⟨j + 1, r + kn, by omega, by go_num, by go_num, h31, hB3, HX⟩, by simp [intOf]; omega⟩
        · have HF := HE.out
          rw [List.drop_eq_nil_of_le (by omega : s.length ≤ j)] at HF
          have HX : Hid (ET.parts (.mk k n s) d = r) := HP.out.trans HF
          have p1 : ¬ (j : Int) < (s.length : Int) := by omega
          clear HF
          go_wp2_with fail
          go_ret
          exact ⟨by rw [HX.out]; rfl, hBr⟩
end Go.Proofs.YtibmnifenfingaaGreatDoor
namespace Go.Proofs.YtibmnifenfingaaGreatDoor
set_option maxRecDepth 100000
open Go.RowKit
set_option linter.unusedSimpArgs false
set_option linter.unusedVariables false
theorem takes_bd (k : Int) : -1 ≤ ET.takes k ∧ ET.takes k ≤ 2 := by
  unfold ET.takes; split; omega; split; omega; split <;> omega
set_option maxHeartbeats 4000000 in
theorem xeach_any (g : ET) : ∀ (v : Value) (w : World), TakesAt w → ExprAt w v g → Calls Tryz.prog 49 #[v] w fun e w' => e = .returned (errV (ET.eachErr g)) ∧ Below w.heap.size w w' := by
  induction g using ET.ind with
  | h k n s ih =>
    intro v w hT hg
    obtain ⟨k', n', s', ad, cap, hmk, rfl, hk, hn, hl, hm, hs⟩ := hg.form
    obtain ⟨rfl, rfl, rfl⟩ := ET.mk.inj hmk
    clear hg hmk
    have IH := Lib.hid ih
    clear ih
    have HT := Lib.hid hT
    clear hT
    by_cases h1 : k < 1
    · have hr : ET.eachErr (.mk k n s) = 3 := by simp [ET.eachErr, h1]
      rw [hr]
      have q1 : decide (k < 1) = true := decide_eq_true h1
      clear hr
      go_enter Tryz.func49, Tryz.ntmps49
      go_wp2_with fail
      go_quiet (fail)
      go_wp2_with fail
      go_ret
      exact ⟨rfl, by repeat (first | with_reducible assumption | with_reducible exact Below.refl _ _ | with_reducible apply Below.drew | (with_reducible refine Below.alloc ?_ (by first | omega | (simp only [zA, zS, zD, zN]; omega) | (dsimp only; omega) | (simp only [zA, zS, zD, zN]; dsimp only; omega)) _) | (with_reducible refine Below.setCell ?_ (by first | omega | (simp only [zA, zS, zD, zN]; omega) | (dsimp only; omega) | (simp only [zA, zS, zD, zN]; dsimp only; omega)) _) | (with_reducible apply below_drewN))⟩
    · by_cases h2 : 11 < k
      · have hr : ET.eachErr (.mk k n s) = 3 := by simp [ET.eachErr, h2]
        rw [hr]
        have q1 : decide (k < 1) = false := decide_eq_false h1
        have q2 : decide (11 < k) = true := decide_eq_true h2
        clear hr
        go_enter Tryz.func49, Tryz.ntmps49
        go_wp2_with fail
        go_quiet (fail)
        go_wp2_with fail
        go_ret
        exact ⟨rfl, by repeat (first | with_reducible assumption | with_reducible exact Below.refl _ _ | with_reducible apply Below.drew | (with_reducible refine Below.alloc ?_ (by first | omega | (simp only [zA, zS, zD, zN]; omega) | (dsimp only; omega) | (simp only [zA, zS, zD, zN]; dsimp only; omega)) _) | (with_reducible refine Below.setCell ?_ (by first | omega | (simp only [zA, zS, zD, zN]; omega) | (dsimp only; omega) | (simp only [zA, zS, zD, zN]; dsimp only; omega)) _) | (with_reducible apply below_drewN))⟩
      · have q1 : decide (k < 1) = false := decide_eq_false h1
        have q2 : decide (11 < k) = false := decide_eq_false h2
        have hk1 : 1 ≤ k := by omega
        have hk2 : k ≤ 11 := by omega
        obtain ⟨K, rfl⟩ := Int.eq_ofNat_of_zero_le (show 0 ≤ k by omega)
        have hcell := (TakesAt.ext HT.out (Below.alloc (Below.refl _ _) (by omega) (.cells #[.int .i64 (K : Int), .int .i64 n, .slice ad s.length cap] 27))) K (by omega)
        have HE1 : Hid (ET.eachErr (.mk (K : Int) n s) = if ET.takes K ≠ s.length then 3 else ET.eachErrL s) := by
          show _ = _
          simp only [ET.eachErr]
          simp [h1, h2]
        have hTB := takes_bd K
        generalize ET.takes K = tk at *
        by_cases h3 : tk = s.length
        · have hr : ET.eachErr (.mk (K : Int) n s) = ET.eachErrL (s.drop 0) := by rw [HE1.out, if_neg (by simpa using h3)]; rfl
          rw [hr]
          have q3 : (tk != (s.length : Int)) = false := by simpa using h3
          clear hr HE1 h1 h2
          have q4 : (K : Int) < 12 := by omega
          go_enter Tryz.func49, Tryz.ntmps49
          go_wp2_with fail
          go_quiet (fail)
          go_wp2_with fail
          generalize hWW : (w.alloc (.cells #[.int .i64 (K : Int), .int .i64 n, .slice ad s.length cap] 27)).drewN nq = W0
          have hB0 : Below w.heap.size w W0 := by rw [← hWW]; repeat (first | with_reducible assumption | with_reducible exact Below.refl _ _ | with_reducible apply Below.drew | (with_reducible refine Below.alloc ?_ (by first | omega | (simp only [zA, zS, zD, zN]; omega) | (dsimp only; omega) | (simp only [zA, zS, zD, zN]; dsimp only; omega)) _) | (with_reducible refine Below.setCell ?_ (by first | omega | (simp only [zA, zS, zD, zN]; omega) | (dsimp only; omega) | (simp only [zA, zS, zD, zN]; dsimp only; omega)) _) | (with_reducible apply below_drewN))
          have hs1 := hs.ext hB0
          have HT1 := Lib.hid (HT.out.ext hB0)
          clear hs hWW HT hcell
          go_loopw [28] (fun i wr => ∃ (j : Nat), j ≤ s.length ∧ i = .int .i64 j ∧ Below W0.heap.size W0 wr ∧ Hid (ET.eachErrL (s.drop 0) = ET.eachErrL (s.drop j))) (fun i _ => s.length - (intOf i).toNat)
          case atStart => exact ⟨0, by omega, rfl, Below.refl _ _, rfl⟩
          case round =>
            obtain ⟨j, hj, rfl, hb2, HE⟩ := hrel
            have hzr := hb2.size
            have hz0 := hB0.size
            have hBr : Below w.heap.size w wr := hB0.trans (hb2.mono hB0.size)
            by_cases hlt : j < s.length
            · have p0 : (0 : Int) ≤ (j : Int) := by omega
              have p1 : (j : Int) < (s.length : Int) := by omega
              obtain ⟨bl, off, rfl, hlt1, hc⟩ := (hs1.ext hb2).at' (by omega)
              obtain ⟨k2, n2, t2, ad2, cap2, c0, c1, c2, hg2⟩ := hc j hlt
              clear hc hs1
              have CK := Lib.hid (fun W (hW : Below wr.heap.size wr W) => IH.out s[j] (List.getElem_mem hlt) (.agg #[.int .i64 k2, .int .i64 n2, .slice ad2 t2 cap2]) W (HT1.out.ext (hb2.trans (hW.mono hb2.size))) (hg2.ext hW))
              have HST := Lib.hid (ET.eachErrL_step s j hlt)
              generalize ET.eachErr s[j] = kn at *
              go_wp2_with fail
              refine (CK.out _ (by repeat (first | with_reducible assumption | with_reducible exact Below.refl _ _ | with_reducible apply Below.drew | (with_reducible refine Below.alloc ?_ (by first | omega | (simp only [zA, zS, zD, zN]; omega) | (dsimp only; omega) | (simp only [zA, zS, zD, zN]; dsimp only; omega)) _) | (with_reducible refine Below.setCell ?_ (by first | omega | (simp only [zA, zS, zD, zN]; omega) | (dsimp only; omega) | (simp only [zA, zS, zD, zN]; dsimp only; omega)) _) | (with_reducible apply below_drewN)))).mono ?_
              rintro e w3 ⟨rfl, hb3⟩
              have hB3 : Below W0.heap.size W0 w3 := Below.trans (by repeat (first | with_reducible assumption | with_reducible exact Below.refl _ _ | with_reducible apply Below.drew | (with_reducible refine Below.alloc ?_ (by first | omega | (simp only [zA, zS, zD, zN]; omega) | (dsimp only; omega) | (simp only [zA, zS, zD, zN]; dsimp only; omega)) _) | (with_reducible refine Below.setCell ?_ (by first | omega | (simp only [zA, zS, zD, zN]; omega) | (dsimp only; omega) | (simp only [zA, zS, zD, zN]; dsimp only; omega)) _) | (with_reducible apply below_drewN))) (hb3.mono (by first | omega | (simp only [zA, zS, zD, zN]; omega) | (dsimp only; omega) | (simp only [zA, zS, zD, zN]; dsimp only; omega)))
              clear hb3
              by_cases he : kn = 0
              · have HX : Hid (ET.eachErrL (s.drop 0) = ET.eachErrL (s.drop (j + 1))) := by
                  have h1 := HST.out
                  rw [if_pos he] at h1
                  exact HE.out.trans h1
                rw [he, errV_zero]
                clear HST
                go_wp2_with fail
                exact ⟨⟨j + 1, by omega, by go_num, hB3, HX⟩, by simp [intOf]; omega⟩
              · have HX : Hid (ET.eachErrL (s.drop 0) = kn) := by
                  have h1 := HST.out
                  rw [if_neg he] at h1
                  exact HE.out.trans h1
                rw [errV_ne he]
                clear HST
                go_wp2_with fail
                go_ret
                exact ⟨by first | (rw [HX.out, errV_ne he]; rfl) | (show _ = Ending.returned (errV (ET.eachErrL (s.drop 0))); rw [HX.out, errV_ne he]; rfl), hB0.trans (hB3.mono hB0.size)⟩
            · have HF := HE.out
              rw [List.drop_eq_nil_of_le (by omega : s.length ≤ j)] at HF
              have HX : Hid (ET.eachErrL (s.drop 0) = 0) := HF
              have p1 : ¬ (j : Int) < (s.length : Int) := by omega
              clear HF
              go_wp2_with fail
              go_ret
              exact ⟨by first | (rw [HX.out]; rfl) | (show _ = Ending.returned (errV (ET.eachErrL (s.drop 0))); rw [HX.out]; rfl), hBr⟩
        · have hr : ET.eachErr (.mk (K : Int) n s) = 3 := by rw [HE1.out, if_pos h3]
          rw [hr]
          have q3 : (tk != (s.length : Int)) = true := by simpa using h3
          clear hr HE1 h1 h2
          have q4 : (K : Int) < 12 := by omega
          go_enter Tryz.func49, Tryz.ntmps49
          go_wp2_with fail
          go_quiet (fail)
          go_wp2_with fail
          go_ret
          exact ⟨rfl, by repeat (first | with_reducible assumption | with_reducible exact Below.refl _ _ | with_reducible apply Below.drew | (with_reducible refine Below.alloc ?_ (by first | omega | (simp only [zA, zS, zD, zN]; omega) | (dsimp only; omega) | (simp only [zA, zS, zD, zN]; dsimp only; omega)) _) | (with_reducible refine Below.setCell ?_ (by first | omega | (simp only [zA, zS, zD, zN]; omega) | (dsimp only; omega) | (simp only [zA, zS, zD, zN]; dsimp only; omega)) _) | (with_reducible apply below_drewN))⟩
set_option maxHeartbeats 1000000 in
theorem xcheck_any (g : ET) (v : Value) (w : World) (hT : TakesAt w) (hg : ExprAt w v g) : Calls Tryz.prog 24 #[v] w fun e w' => e = .returned (errV (ET.check g)) ∧ Below w.heap.size w w' := by
  obtain ⟨k, n, s, ad, cap, hmk, rfl, hk, hn, hl, hm, hs⟩ := hg.form
  have C1 := Lib.hid (fun W (h : Below w.heap.size w W) => xparts_any g 0 (.agg #[.int .i64 k, .int .i64 n, .slice ad s.length cap]) W (by omega) (hg.ext h))
  have C2 := Lib.hid (fun W (h : Below w.heap.size w W) => xeach_any g (.agg #[.int .i64 k, .int .i64 n, .slice ad s.length cap]) W (hT.ext h) (hg.ext h))
  have HR : Hid (ET.check g = if 30 < ET.parts g 0 then 4 else ET.eachErr g) := rfl
  have hpl := ET.parts_le g 0 (by omega)
  clear hg hmk hs hk hn hl hm hT
  generalize ET.check g = ce at *
  generalize ET.parts g 0 = pg at *
  generalize ET.eachErr g = eg at *
  by_cases h : 30 < pg
  · have h' : (30 : Int) < (pg : Int) := by omega
    have HX : Hid (ce = 4) := by have := HR.out; rw [if_pos h] at this; exact this
    clear h HR
    go_enter Tryz.func24, Tryz.ntmps24
    go_wp2_with fail
    refine (C1.out _ (by repeat (first | with_reducible assumption | with_reducible exact Below.refl _ _ | with_reducible apply Below.drew | (with_reducible refine Below.alloc ?_ (by first | omega | (simp only [zA, zS, zD, zN]; omega) | (dsimp only; omega) | (simp only [zA, zS, zD, zN]; dsimp only; omega)) _) | (with_reducible refine Below.setCell ?_ (by first | omega | (simp only [zA, zS, zD, zN]; omega) | (dsimp only; omega) | (simp only [zA, zS, zD, zN]; dsimp only; omega)) _) | (with_reducible apply below_drewN)))).mono ?_
    rintro e w1 ⟨rfl, hb1⟩
    have hB1 : Below w.heap.size w w1 := Below.trans (by repeat (first | with_reducible assumption | with_reducible exact Below.refl _ _ | with_reducible apply Below.drew | (with_reducible refine Below.alloc ?_ (by first | omega | (simp only [zA, zS, zD, zN]; omega) | (dsimp only; omega) | (simp only [zA, zS, zD, zN]; dsimp only; omega)) _) | (with_reducible refine Below.setCell ?_ (by first | omega | (simp only [zA, zS, zD, zN]; omega) | (dsimp only; omega) | (simp only [zA, zS, zD, zN]; dsimp only; omega)) _) | (with_reducible apply below_drewN))) (hb1.mono (by first | omega | (simp only [zA, zS, zD, zN]; omega) | (dsimp only; omega) | (simp only [zA, zS, zD, zN]; dsimp only; omega)))
    obtain ⟨hc1, hf1, hz1⟩ := bcell hb1
    try simp only [zA, zS, zD, zN] at hz1
    clear hb1
    have y1_0 : w.heap.size < w1.heap.size := by omega
    go_wp2_with fail
    go_ret
    exact ⟨by rw [HX.out]; rfl, by repeat (first | with_reducible assumption | with_reducible exact Below.refl _ _ | with_reducible apply Below.drew | (with_reducible refine Below.alloc ?_ (by first | omega | (simp only [zA, zS, zD, zN]; omega) | (dsimp only; omega) | (simp only [zA, zS, zD, zN]; dsimp only; omega)) _) | (with_reducible refine Below.setCell ?_ (by first | omega | (simp only [zA, zS, zD, zN]; omega) | (dsimp only; omega) | (simp only [zA, zS, zD, zN]; dsimp only; omega)) _) | (with_reducible apply below_drewN))⟩
  · have h' : ¬ (30 : Int) < (pg : Int) := by omega
    have HX : Hid (ce = eg) := by have := HR.out; rw [if_neg h] at this; exact this
    clear h HR
    go_enter Tryz.func24, Tryz.ntmps24
    go_wp2_with fail
    refine (C1.out _ (by repeat (first | with_reducible assumption | with_reducible exact Below.refl _ _ | with_reducible apply Below.drew | (with_reducible refine Below.alloc ?_ (by first | omega | (simp only [zA, zS, zD, zN]; omega) | (dsimp only; omega) | (simp only [zA, zS, zD, zN]; dsimp only; omega)) _) | (with_reducible refine Below.setCell ?_ (by first | omega | (simp only [zA, zS, zD, zN]; omega) | (dsimp only; omega) | (simp only [zA, zS, zD, zN]; dsimp only; omega)) _) | (with_reducible apply below_drewN)))).mono ?_
    rintro e w1 ⟨rfl, hb1⟩
    have hB1 : Below w.heap.size w w1 := Below.trans (by repeat (first | with_reducible assumption | with_reducible exact Below.refl _ _ | with_reducible apply Below.drew | (with_reducible refine Below.alloc ?_ (by first | omega | (simp only [zA, zS, zD, zN]; omega) | (dsimp only; omega) | (simp only [zA, zS, zD, zN]; dsimp only; omega)) _) | (with_reducible refine Below.setCell ?_ (by first | omega | (simp only [zA, zS, zD, zN]; omega) | (dsimp only; omega) | (simp only [zA, zS, zD, zN]; dsimp only; omega)) _) | (with_reducible apply below_drewN))) (hb1.mono (by first | omega | (simp only [zA, zS, zD, zN]; omega) | (dsimp only; omega) | (simp only [zA, zS, zD, zN]; dsimp only; omega)))
    obtain ⟨hc1, hf1, hz1⟩ := bcell hb1
    try simp only [zA, zS, zD, zN] at hz1
    clear hb1
    have y1_0 : w.heap.size < w1.heap.size := by omega
    go_wp2_with fail
    refine (C2.out _ (by repeat (first | with_reducible assumption | with_reducible exact Below.refl _ _ | with_reducible apply Below.drew | (with_reducible refine Below.alloc ?_ (by first | omega | (simp only [zA, zS, zD, zN]; omega) | (dsimp only; omega) | (simp only [zA, zS, zD, zN]; dsimp only; omega)) _) | (with_reducible refine Below.setCell ?_ (by first | omega | (simp only [zA, zS, zD, zN]; omega) | (dsimp only; omega) | (simp only [zA, zS, zD, zN]; dsimp only; omega)) _) | (with_reducible apply below_drewN)))).mono ?_
    rintro e w2 ⟨rfl, hb2⟩
    have hB2 : Below w.heap.size w w2 := Below.trans (by repeat (first | with_reducible assumption | with_reducible exact Below.refl _ _ | with_reducible apply Below.drew | (with_reducible refine Below.alloc ?_ (by first | omega | (simp only [zA, zS, zD, zN]; omega) | (dsimp only; omega) | (simp only [zA, zS, zD, zN]; dsimp only; omega)) _) | (with_reducible refine Below.setCell ?_ (by first | omega | (simp only [zA, zS, zD, zN]; omega) | (dsimp only; omega) | (simp only [zA, zS, zD, zN]; dsimp only; omega)) _) | (with_reducible apply below_drewN))) (hb2.mono (by first | omega | (simp only [zA, zS, zD, zN]; omega) | (dsimp only; omega) | (simp only [zA, zS, zD, zN]; dsimp only; omega)))
    obtain ⟨hc2, hf2, hz2⟩ := bcell hb2
    try simp only [zA, zS, zD, zN] at hz2
    clear hb2
    have y2_0 : w.heap.size < w2.heap.size := by omega
    go_wp2_with fail
    go_ret
    exact ⟨by rw [HX.out]; rfl, by repeat (first | with_reducible assumption | with_reducible exact Below.refl _ _ | with_reducible apply Below.drew | (with_reducible refine Below.alloc ?_ (by first | omega | (simp only [zA, zS, zD, zN]; omega) | (dsimp only; omega) | (simp only [zA, zS, zD, zN]; dsimp only; omega)) _) | (with_reducible refine Below.setCell ?_ (by first | omega | (simp only [zA, zS, zD, zN]; omega) | (dsimp only; omega) | (simp only [zA, zS, zD, zN]; dsimp only; omega)) _) | (with_reducible apply below_drewN))⟩
end Go.Proofs.YtibmnifenfingaaGreatDoor
namespace Go.Proofs.YtibmnifenfingaaGreatDoor
set_option maxRecDepth 100000
open Go.RowKit
set_option linter.unusedSimpArgs false
set_option linter.unusedVariables false
/-- A closure that is called with each number. -/
structure Vis {σ : Type} (B K p1 p2 : Nat) (cs : Array Value) (st : σ → Int → σ) (J : σ → World → Prop) : Prop where
  enter : ∀ args w, Sem.run Tryz.prog (callFunc K args) w = .ok (.enter K args) w
  lo : B ≤ p1 ∧ B ≤ p2
  lt : ∀ q w, J q w → p1 < w.heap.size ∧ p2 < w.heap.size
  stay : ∀ q w w', J q w → Below w.heap.size w w' → J q w'
  call : ∀ n q w, In64 n → J q w → Calls Tryz.prog K (#[.int .i64 n] ++ cs) w fun e w' => e = .returned (.tuple #[]) ∧ J (st q n) w' ∧ Own p1 p2 p1 p1 w w'
section
variable {σ : Type} {B K p1 p2 : Nat} {st : σ → Int → σ} {J : σ → World → Prop}
theorem Own.of_below {w w' : World} (h : Below w.heap.size w w') : Own p1 p2 p1 p1 w w' := ⟨h.os, h.tape, h.output, h.size, fun b hb _ _ _ => h.block b hb, .inl rfl⟩
theorem Own.up {w0 w w' : World} (h : Own p1 p2 p1 p1 w w') (hb : Below w0.heap.size w0 w) (h1 : w0.heap.size ≤ p1) (h2 : w0.heap.size ≤ p2) : Below w0.heap.size w0 w' :=
  hb.trans (h.below h1 h2 h1 hb.size)
theorem Blk.own {w w' : World} {b : Nat} {cs : Array Value} {t : TypeId} (h : Blk w b cs t) (ho : Own p1 p2 p1 p1 w w') (h1 : b ≠ p1) (h2 : b ≠ p2) : Blk w' b cs t := (ho.blk b h.lt h1 h2 h1).trans h
set_option maxHeartbeats 4000000 in
theorem numbers_any {cs : Array Value} (V : Vis B K p1 p2 cs st J) (w0 : World) (h0 : w0.heap.size ≤ B) (t : VT) : ∀ (v : Value) (q : σ) (w : World), ValAt w0 v t → Below w0.heap.size w0 w → J q w →
    Calls Tryz.prog 61 #[v, .func (.func K) #[] cs] w fun e w' => e = .returned (.tuple #[]) ∧ J (t.nums.foldl st q) w' ∧ Own p1 p2 p1 p1 w w' := by
  induction t using VT.ind with
  | h l n s ih =>
    intro v q w hv hb hJ
    obtain ⟨l', n', s', ad, cap, hmk, rfl, hn, hl, hm, hs⟩ := hv.form
    obtain ⟨rfl, rfl, rfl⟩ := VT.mk.inj hmk
    have hk := V.enter
    have HV := Lib.hid V
    have IH := Lib.hid ih
    have hlt := V.lt q w hJ
    have hlo := V.lo
    clear hv hmk ih V
    have hz0 := hb.size
    cases l with
    | true =>
      have HF : Hid (VT.nums (.mk true n s) = VT.numsL (s.drop 0)) := rfl
      rw [HF.out]
      go_enter Tryz.func61, Tryz.ntmps61
      go_wp2_with fail
      generalize hWW : w.alloc (.cells #[.bool true, .int .i64 n, .slice ad s.length cap] 45) = W0
      have hB0 : Below w.heap.size w W0 := by rw [← hWW]; repeat (first | with_reducible assumption | with_reducible exact Below.refl _ _ | with_reducible apply Below.drew | (with_reducible refine Below.alloc ?_ (by first | omega | (simp only [zA, zS, zD, zN]; omega) | (dsimp only; omega) | (simp only [zA, zS, zD, zN]; dsimp only; omega)) _) | (with_reducible refine Below.setCell ?_ (by first | omega | (simp only [zA, zS, zD, zN]; omega) | (dsimp only; omega) | (simp only [zA, zS, zD, zN]; dsimp only; omega)) _) | (with_reducible apply below_drewN))
      have hO0 : Own p1 p2 p1 p1 w W0 := Own.of_below hB0
      have hJ0 := HV.out.stay q w W0 hJ hB0
      clear hWW hJ HF
      go_loopw [16] (fun i wr => ∃ (j : Nat) (qr : σ), j ≤ s.length ∧ i = .int .i64 j ∧ J qr wr ∧ Own p1 p2 p1 p1 w wr ∧ Hid ((VT.numsL (s.drop 0)).foldl st q = (VT.numsL (s.drop j)).foldl st qr)) (fun i _ => s.length - (intOf i).toNat)
      case atStart => exact ⟨0, q, by omega, rfl, hJ0, hO0, rfl⟩
      case round =>
        obtain ⟨j, qr, hj, rfl, hJr, hOr, HE⟩ := hrel
        have hzr := hOr.size
        by_cases hlt : j < s.length
        · have p0 : (0 : Int) ≤ (j : Int) := by omega
          have p1' : (j : Int) < (s.length : Int) := by omega
          have hbr := hOr.up hb (by omega) (by omega)
          obtain ⟨bl, off, rfl, hlt1, hc⟩ := hs.at' (by omega)
          obtain ⟨l2, n2, ad2, t2, cap2, c0, c1, c2, hg2⟩ := hc j hlt
          have e0 := (hbr.cell (p := ⟨bl, _, none⟩) hlt1).trans c0
          have e1 := (hbr.cell (p := ⟨bl, _, none⟩) hlt1).trans c1
          have e2 := (hbr.cell (p := ⟨bl, _, none⟩) hlt1).trans c2
          clear hc c0 c1 c2
          have CK := Lib.hid (fun q W hW hq => IH.out s[j] (List.getElem_mem hlt) (.agg #[.bool l2, .int .i64 n2, .slice ad2 t2 cap2]) q W hg2 hW hq)
          have HST := Lib.hid (VT.numsL_step s j hlt)
          generalize VT.nums s[j] = ks at *
          go_wp2_with fail
          generalize hWW : wr.alloc (.cells #[.bool l2, .int .i64 n2, .slice ad2 t2 cap2] 45) = W5
          have hB5 : Below wr.heap.size wr W5 := by rw [← hWW]; repeat (first | with_reducible assumption | with_reducible exact Below.refl _ _ | with_reducible apply Below.drew | (with_reducible refine Below.alloc ?_ (by first | omega | (simp only [zA, zS, zD, zN]; omega) | (dsimp only; omega) | (simp only [zA, zS, zD, zN]; dsimp only; omega)) _) | (with_reducible refine Below.setCell ?_ (by first | omega | (simp only [zA, zS, zD, zN]; omega) | (dsimp only; omega) | (simp only [zA, zS, zD, zN]; dsimp only; omega)) _) | (with_reducible apply below_drewN))
          have hO5 : Own p1 p2 p1 p1 wr W5 := Own.of_below hB5
          refine (CK.out qr W5 ((hOr.trans hO5).up hb (by omega) (by omega)) (HV.out.stay _ _ _ hJr hB5)).mono ?_
          rintro e w3 ⟨rfl, hJ3, hO3⟩
          clear hWW
          go_wp2_with fail
          exact ⟨⟨j + 1, ks.foldl st qr, by omega, by go_num, hJ3, (hOr.trans hO5).trans hO3, by show _ = _; rw [HE.out, HST.out, List.foldl_append]⟩, by simp [intOf]; omega⟩
        · have HF := HE.out
          rw [List.drop_eq_nil_of_le (by omega : s.length ≤ j)] at HF
          have HX : Hid ((VT.numsL (s.drop 0)).foldl st q = qr) := HF
          have p1' : ¬ (j : Int) < (s.length : Int) := by omega
          clear HF
          go_wp2_with fail
          go_end0
          exact ⟨rfl, by first | (rw [HX.out]; exact hJr) | (show J ((VT.numsL (s.drop 0)).foldl st q) _; rw [HX.out]; exact hJr), hOr⟩
    | false =>
      have HF : Hid (VT.nums (.mk false n s) = n :: VT.numsL (s.drop 0)) := rfl
      obtain ⟨q1, hq1⟩ : ∃ q1, q1 = st q n := ⟨_, rfl⟩
      rw [HF.out, List.foldl_cons, ← hq1]
      have HQ := Lib.hid hq1
      clear hq1
      go_enter Tryz.func61, Tryz.ntmps61
      go_wp2_with fail
      generalize hWW : w.alloc (.cells #[.bool false, .int .i64 n, .slice ad s.length cap] 45) = W1
      have hB1 : Below w.heap.size w W1 := by rw [← hWW]; repeat (first | with_reducible assumption | with_reducible exact Below.refl _ _ | with_reducible apply Below.drew | (with_reducible refine Below.alloc ?_ (by first | omega | (simp only [zA, zS, zD, zN]; omega) | (dsimp only; omega) | (simp only [zA, zS, zD, zN]; dsimp only; omega)) _) | (with_reducible refine Below.setCell ?_ (by first | omega | (simp only [zA, zS, zD, zN]; omega) | (dsimp only; omega) | (simp only [zA, zS, zD, zN]; dsimp only; omega)) _) | (with_reducible apply below_drewN))
      have hk1 : Blk W1 w.heap.size #[.bool false, .int .i64 n, .slice ad s.length cap] 45 := by rw [← hWW]; exact Blk.new _ _ _
      have hO1 : Own p1 p2 p1 p1 w W1 := Own.of_below hB1
      have hJ1 := HV.out.stay q w W1 hJ hB1
      clear hWW hJ HF
      refine (HV.out.call n q W1 hn hJ1).mono ?_
      rintro e W0 ⟨rfl, hJ0, hO2⟩
      rw [← HQ.out] at hJ0
      have hO0 := hO1.trans hO2
      have hk0 := hk1.own hO2 (by omega) (by omega)
      have c2 := hk0.cell 2
      simp only [List.getElem?_toArray, List.getElem?_cons_succ, List.getElem?_cons_zero] at c2
      go_wp2_with fail
      go_loopw [16] (fun i wr => ∃ (j : Nat) (qr : σ), j ≤ s.length ∧ i = .int .i64 j ∧ J qr wr ∧ Own p1 p2 p1 p1 w wr ∧ Hid ((VT.numsL (s.drop 0)).foldl st q1 = (VT.numsL (s.drop j)).foldl st qr)) (fun i _ => s.length - (intOf i).toNat)
      case atStart => exact ⟨0, q1, by omega, rfl, hJ0, hO0, rfl⟩
      case round =>
        obtain ⟨j, qr, hj, rfl, hJr, hOr, HE⟩ := hrel
        have hzr := hOr.size
        by_cases hlt : j < s.length
        · have p0 : (0 : Int) ≤ (j : Int) := by omega
          have p1' : (j : Int) < (s.length : Int) := by omega
          have hbr := hOr.up hb (by omega) (by omega)
          obtain ⟨bl, off, rfl, hlt1, hc⟩ := hs.at' (by omega)
          obtain ⟨l2, n2, ad2, t2, cap2, c0, c1, c2, hg2⟩ := hc j hlt
          have e0 := (hbr.cell (p := ⟨bl, _, none⟩) hlt1).trans c0
          have e1 := (hbr.cell (p := ⟨bl, _, none⟩) hlt1).trans c1
          have e2 := (hbr.cell (p := ⟨bl, _, none⟩) hlt1).trans c2
          clear hc c0 c1 c2
          have CK := Lib.hid (fun q W hW hq => IH.out s[j] (List.getElem_mem hlt) (.agg #[.bool l2, .int .i64 n2, .slice ad2 t2 cap2]) q W hg2 hW hq)
          have HST := Lib.hid (VT.numsL_step s j hlt)
          generalize VT.nums s[j] = ks at *
          go_wp2_with fail
          generalize hWW : wr.alloc (.cells #[.bool l2, .int .i64 n2, .slice ad2 t2 cap2] 45) = W5
          have hB5 : Below wr.heap.size wr W5 := by rw [← hWW]; repeat (first | with_reducible assumption | with_reducible exact Below.refl _ _ | with_reducible apply Below.drew | (with_reducible refine Below.alloc ?_ (by first | omega | (simp only [zA, zS, zD, zN]; omega) | (dsimp only; omega) | (simp only [zA, zS, zD, zN]; dsimp only; omega)) _) | (with_reducible refine Below.setCell ?_ (by first | omega | (simp only [zA, zS, zD, zN]; omega) | (dsimp only; omega) | (simp only [zA, zS, zD, zN]; dsimp only; omega)) _) | (with_reducible apply below_drewN))
          have hO5 : Own p1 p2 p1 p1 wr W5 := Own.of_below hB5
          refine (CK.out qr W5 ((hOr.trans hO5).up hb (by omega) (by omega)) (HV.out.stay _ _ _ hJr hB5)).mono ?_
          rintro e w3 ⟨rfl, hJ3, hO3⟩
          clear hWW
          go_wp2_with fail
          exact ⟨⟨j + 1, ks.foldl st qr, by omega, by go_num, hJ3, (hOr.trans hO5).trans hO3, by show _ = _; rw [HE.out, HST.out, List.foldl_append]⟩, by simp [intOf]; omega⟩
        · have HF := HE.out
          rw [List.drop_eq_nil_of_le (by omega : s.length ≤ j)] at HF
          have HX : Hid ((VT.numsL (s.drop 0)).foldl st q1 = qr) := HF
          have p1' : ¬ (j : Int) < (s.length : Int) := by omega
          clear HF
          go_wp2_with fail
          go_end0
          exact ⟨rfl, by first | (rw [HX.out]; exact hJr) | (show J ((VT.numsL (s.drop 0)).foldl st q1) _; rw [HX.out]; exact hJr), hOr⟩
end
end Go.Proofs.YtibmnifenfingaaGreatDoor
namespace Go.Proofs.YtibmnifenfingaaGreatDoor
set_option maxRecDepth 100000
open Go.RowKit
set_option linter.unusedSimpArgs false
set_option linter.unusedVariables false
theorem sumW_fold (l : List Int) : ∀ n, l.foldl (fun n k => wrap64 (n + k)) n = sumW n l := by
  induction l with
  | nil => intro n; rfl
  | cons k l ih => intro n; exact ih _
theorem topW_fold (l : List Int) : ∀ r, l.foldl (fun (r : Int × Bool) k => if r.2 = false ∨ r.1 < k then (k, true) else r) r = topW r l := by
  induction l with
  | nil => intro n; rfl
  | cons k l ih => intro n; exact ih _
theorem vis_sum (B p : Nat) (hp : B ≤ p) : Vis B 62 p p #[.pointer (some ⟨p, 0, none⟩)] (fun n k => wrap64 (n + k)) (fun n w => Blk w p #[.int .i64 n] 3) where
  enter := fun args w => by rfl
  lo := ⟨hp, hp⟩
  lt := fun q w h => ⟨h.lt, h.lt⟩
  stay := fun q w w' h hb => h.ext hb
  call := fun n q w hn h => by
    have c0 := h.cell 0
    have u0 := h.unfrozen 0
    have hs := h.set 0 (.int .i64 (wrap64 (q + n)))
    simp only [List.getElem?_toArray, List.getElem?_cons_zero, List.setIfInBounds_toArray, List.set_cons_zero] at c0 hs
    show Calls Tryz.prog 62 #[.int .i64 n, .pointer (some ⟨p, 0, none⟩)] w _
    go_enter Tryz.func62, Tryz.ntmps62
    go_wp2_with fail
    go_end0
    exact ⟨rfl, hs, ⟨rfl, rfl, rfl, by rw [size_setCell]; exact Nat.le_refl _, fun b hb h1 h2 h3 => Below.heap_setCell _ _ _ _ h1, .inl rfl⟩⟩
theorem vis_top (B p ps : Nat) (hp : B ≤ p) (hps : B ≤ ps) (hne : p ≠ ps) : Vis B 63 p ps #[.pointer (some ⟨ps, 0, none⟩), .pointer (some ⟨p, 0, none⟩)] (fun (r : Int × Bool) k => if r.2 = false ∨ r.1 < k then (k, true) else r) (fun r w => Blk w p #[.int .i64 r.1] 3 ∧ Blk w ps #[.bool r.2] 4) where
  enter := fun args w => by rfl
  lo := ⟨hp, hps⟩
  lt := fun q w h => ⟨h.1.lt, h.2.lt⟩
  stay := fun q w w' h hb => ⟨h.1.ext hb, h.2.ext hb⟩
  call := fun n q w hn h => by
    obtain ⟨m, s⟩ := q
    obtain ⟨h1, h2⟩ := h
    dsimp only at h1 h2
    have c0 := h1.cell 0
    have u0 := h1.unfrozen 0
    have d0 := h2.cell 0
    have v0 := h2.unfrozen 0
    have hs1 := (h1.set 0 (.int .i64 n)).oth ps 0 hne (.bool true)
    have hs2 := (h2.oth p 0 (fun e => hne e.symm) (.int .i64 n)).set 0 (.bool true)
    simp only [List.getElem?_toArray, List.getElem?_cons_zero, List.setIfInBounds_toArray, List.set_cons_zero] at c0 d0 hs1 hs2
    have ho : Own p ps p p w ((w.setCell ⟨p, 0, none⟩ (.int .i64 n)).setCell ⟨ps, 0, none⟩ (.bool true)) :=
      ⟨rfl, rfl, rfl, by simp only [size_setCell]; exact Nat.le_refl _, fun b hb h1 h2 h3 => (Below.heap_setCell _ _ _ _ h2).trans (Below.heap_setCell _ _ _ _ h1), .inl rfl⟩
    show Calls Tryz.prog 63 #[.int .i64 n, .pointer (some ⟨ps, 0, none⟩), .pointer (some ⟨p, 0, none⟩)] w _
    cases s with
    | false =>
      have HX : Hid ((if (m, false).2 = false ∨ (m, false).1 < n then (n, true) else (m, false)) = (n, true)) := if_pos (.inl rfl)
      rw [HX.out]
      go_enter Tryz.func63, Tryz.ntmps63
      go_wp2_with fail
      go_end0
      exact ⟨rfl, ⟨hs1, hs2⟩, ho⟩
    | true =>
      by_cases hlt : m < n
      · have HX : Hid ((if (m, true).2 = false ∨ (m, true).1 < n then (n, true) else (m, true)) = (n, true)) := if_pos (.inr hlt)
        rw [HX.out]
        go_enter Tryz.func63, Tryz.ntmps63
        go_wp2_with fail
        go_end0
        exact ⟨rfl, ⟨hs1, hs2⟩, ho⟩
      · have HX : Hid ((if (m, true).2 = false ∨ (m, true).1 < n then (n, true) else (m, true)) = (m, true)) := if_neg (by intro h; rcases h with h | h; cases h; exact hlt h)
        rw [HX.out]
        go_enter Tryz.func63, Tryz.ntmps63
        go_wp2_with fail
        go_end0
        exact ⟨rfl, ⟨h1, h2⟩, Own.refl _ _ _ _⟩
theorem truth_any (b : Bool) (w : World) : Calls Tryz.prog 64 #[.bool b] w fun e w' => e = .returned (.int .i64 (truth b)) ∧ w = w' := by
  cases b
  · go_enter Tryz.func64, Tryz.ntmps64
    go_wp2_with fail
    go_ret
    exact ⟨rfl, rfl⟩
  · go_enter Tryz.func64, Tryz.ntmps64
    go_wp2_with fail
    go_ret
    exact ⟨rfl, rfl⟩
end Go.Proofs.YtibmnifenfingaaGreatDoor
