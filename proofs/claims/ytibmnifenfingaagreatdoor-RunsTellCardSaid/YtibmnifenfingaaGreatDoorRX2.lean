/- The walks through the document's answers on values: what is wrong with one, its numbers. -/
import Derived.Test.YtibmnifenfingaaGreatDoorPRefE
import Derived.Test.YtibmnifenfingaaGreatDoorEXA
import Derived.Test.YtibmnifenfingaaGreatDoorPMV
import Derived.Test.YtibmnifenfingaaGreatDoorGNS
import Derived.Deep.DeepCutAuto
namespace Go.Proofs.YtibmnifenfingaaGreatDoor
set_option maxRecDepth 100000
open Go.RowKit
set_option linter.unusedSimpArgs false
set_option linter.unusedVariables false
theorem VT.leavesL_append (a b : List VT) : VT.leavesL (a ++ b) = VT.leavesL a ++ VT.leavesL b := by
  induction a with
  | nil => rfl
  | cons x a ih => simp [VT.leavesL, ih]
theorem VT.leavesL_le (s : List VT) (j : Nat) (h : j < s.length) : (VT.leavesL (s.take j)).length + (VT.leaves s[j]).length ≤ (VT.leavesL s).length := by
  have e : VT.leavesL s = VT.leavesL (s.take (j + 1)) ++ VT.leavesL (s.drop (j + 1)) := by rw [← VT.leavesL_append, List.take_append_drop]
  rw [e, VT.leavesL_step s j h]
  simp only [List.length_append]
  omega
theorem VT.leaves_fit (v : VT) : VT.Fit v → ∀ n ∈ VT.leaves v, In64 n := by
  induction v using VT.ind with
  | h l n s ih =>
    intro h
    have hL : ∀ (t : List VT), (∀ x ∈ t, x ∈ s) → ∀ n ∈ VT.leavesL t, In64 n := by
      intro t
      induction t with
      | nil => intro _ n hn; simp [VT.leavesL] at hn
      | cons y t iht =>
        intro hx n hn
        simp only [VT.leavesL] at hn
        rcases List.mem_append.1 hn with hn | hn
        · exact ih y (hx y (by simp)) ((VT.fitL_mem s).1 h.2.2 y (hx y (by simp))) n hn
        · exact iht (fun z hz => hx z (by simp [hz])) n hn
    cases l with
    | true => exact hL s (fun x hx => hx)
    | false =>
      intro m hm
      simp [VT.leaves] at hm
      subst hm
      exact h.1
theorem VT.leavesL_fit (s : List VT) (h : ∀ x ∈ s, VT.Fit x) : ∀ n ∈ VT.leavesL s, In64 n := by
  induction s with
  | nil => intro n hn; simp [VT.leavesL] at hn
  | cons y t iht =>
    intro n hn
    simp only [VT.leavesL] at hn
    rcases List.mem_append.1 hn with hn | hn
    · exact VT.leaves_fit y (h y (by simp)) n hn
    · exact iht (fun x hx => h x (by simp [hx])) n hn
set_option maxHeartbeats 2000000 in
theorem rleaves_any (t : VT) : ∀ (v : Value) (w : World), (VT.leaves t).length ≤ 17592186044416 → ValAt w v t → Calls Tryz.prog 83 #[v] w fun e w' => (∃ lv, e = .returned lv ∧ IntsS w' (fun b => w.heap.size ≤ b) lv (VT.leaves t)) ∧ Below w.heap.size w w' := by
  induction t using VT.ind with
  | h l n s ih =>
    intro v w hd hv
    have hfit := hv.fit
    obtain ⟨l', n', s', ad, cap, hmk, rfl, hn, hl, hm, hs⟩ := hv.form
    obtain ⟨rfl, rfl, rfl⟩ := VT.mk.inj hmk
    clear hv hmk
    have IH := Lib.hid ih
    clear ih
    cases l with
    | false =>
      have hr : VT.leaves (.mk false n s) = [n] := by simp [VT.leaves]
      rw [hr]
      clear hr hd hfit
      go_enter Tryz.func83, Tryz.ntmps83
      go_wp2_with fail
      have hB : Below w.heap.size w ((w.alloc (.cells #[.bool false, .int .i64 n, .slice ad s.length cap] 45)).alloc (.cells #[.int .i64 n] 3)) := by repeat (first | with_reducible assumption | with_reducible exact Below.refl _ _ | with_reducible apply Below.drew | (with_reducible refine Below.alloc ?_ (by first | omega | (simp only [zA, zS, zD, zN]; omega) | (dsimp only; omega) | (simp only [zA, zS, zD, zN]; dsimp only; omega)) _) | (with_reducible refine Below.setCell ?_ (by first | omega | (simp only [zA, zS, zD, zN]; omega) | (dsimp only; omega) | (simp only [zA, zS, zD, zN]; dsimp only; omega)) _) | (with_reducible apply below_drewN))
      have hO := OwnInts.lit (w.alloc (.cells #[.bool false, .int .i64 n, .slice ad s.length cap] 45)) w.heap.size [n] (by simp) (by simp [maxLen])
      have hS := (hO.s (by simpa using hn)).mono (S' := fun b => w.heap.size ≤ b) (fun b hb _ => by simp [Value.ownBlock] at hb; omega)
      simp only [World.size_alloc, List.map_cons, List.map_nil, List.length_cons, List.length_nil] at hS
      go_ret
      exact ⟨⟨_, rfl, hS⟩, hB⟩
    | true =>
      have hr : VT.leaves (.mk true n s) = VT.leavesL s := by simp [VT.leaves]
      rw [hr] at hd ⊢
      have HIN : Hid (∀ n ∈ VT.leavesL s, In64 n) := VT.leavesL_fit s (fun x hx => (VT.fitL_mem s).1 hfit.2.2 x hx)
      clear hr hfit
      go_enter Tryz.func83, Tryz.ntmps83
      go_wp2_with fail
      generalize hWW : w.alloc (.cells #[.bool true, .int .i64 n, .slice ad s.length cap] 45) = W0
      have hB0 : Below w.heap.size w W0 := by rw [← hWW]; repeat (first | with_reducible assumption | with_reducible exact Below.refl _ _ | with_reducible apply Below.drew | (with_reducible refine Below.alloc ?_ (by first | omega | (simp only [zA, zS, zD, zN]; omega) | (dsimp only; omega) | (simp only [zA, zS, zD, zN]; dsimp only; omega)) _) | (with_reducible refine Below.setCell ?_ (by first | omega | (simp only [zA, zS, zD, zN]; omega) | (dsimp only; omega) | (simp only [zA, zS, zD, zN]; dsimp only; omega)) _) | (with_reducible apply below_drewN))
      have X0 : Blk W0 w.heap.size #[.bool true, .int .i64 n, .slice ad s.length cap] 45 := by rw [← hWW]; exact Blk.new _ _ _
      have hs1 := hs.ext hB0
      have hz0 : W0.heap.size = w.heap.size + 1 := by rw [← hWW]; simp
      clear hs hWW
      go_loopw [3, 4] (fun o i wr => ∃ j : Nat, j ≤ s.length ∧ i = .int .i64 j ∧ Below W0.heap.size W0 wr ∧ Hid (OwnInts wr W0.heap.size o (VT.leavesL (s.take j)))) (fun _ i _ => s.length - (intOf i).toNat)
      case atStart => exact ⟨0, by omega, rfl, Below.refl _ _, OwnInts.nil _ _⟩
      case round =>
        obtain ⟨j, hj, rfl, hb2, HO⟩ := hrel
        have hzr := hb2.size
        have hBr : Below w.heap.size w wr := hB0.trans (hb2.mono hB0.size)
        have xr := X0.ext hb2
        have f0 := xr.cell 0
        have f1 := xr.cell 1
        have f2 := xr.cell 2
        simp only [List.getElem?_toArray, List.getElem?_cons_succ, List.getElem?_cons_zero] at f0 f1 f2
        by_cases hlt : j < s.length
        · have p0 : (0 : Int) ≤ (j : Int) := by omega
          have p1 : (j : Int) < (s.length : Int) := by omega
          obtain ⟨bl, off, rfl, hlt1, hc⟩ := (hs1.ext hb2).at' (by omega)
          obtain ⟨l2, n2, ad2, t2, cap2, c0, c1, c2, hg2⟩ := hc j hlt
          clear hc hs1
          have HLE : Hid ((VT.leavesL (s.take j)).length + (VT.leaves s[j]).length ≤ (VT.leavesL s).length) := VT.leavesL_le s j hlt
          have HST := Lib.hid (VT.leavesL_step s j hlt)
          have CK := Lib.hid (fun W hW => IH.out s[j] (List.getElem_mem hlt) (.agg #[.bool l2, .int .i64 n2, .slice ad2 t2 cap2]) W (by have := HLE.out; omega) (hg2.ext hW))
          go_wp2_with fail
          refine (CK.out _ (by repeat (first | with_reducible assumption | with_reducible exact Below.refl _ _ | with_reducible apply Below.drew | (with_reducible refine Below.alloc ?_ (by first | omega | (simp only [zA, zS, zD, zN]; omega) | (dsimp only; omega) | (simp only [zA, zS, zD, zN]; dsimp only; omega)) _) | (with_reducible refine Below.setCell ?_ (by first | omega | (simp only [zA, zS, zD, zN]; omega) | (dsimp only; omega) | (simp only [zA, zS, zD, zN]; dsimp only; omega)) _) | (with_reducible apply below_drewN)))).mono ?_
          rintro e w3 ⟨⟨lv, rfl, hlv⟩, hb3⟩
          have hB3 : Below wr.heap.size wr w3 := Below.trans (by repeat (first | with_reducible assumption | with_reducible exact Below.refl _ _ | with_reducible apply Below.drew | (with_reducible refine Below.alloc ?_ (by first | omega | (simp only [zA, zS, zD, zN]; omega) | (dsimp only; omega) | (simp only [zA, zS, zD, zN]; dsimp only; omega)) _) | (with_reducible refine Below.setCell ?_ (by first | omega | (simp only [zA, zS, zD, zN]; omega) | (dsimp only; omega) | (simp only [zA, zS, zD, zN]; dsimp only; omega)) _) | (with_reducible apply below_drewN))) (hb3.mono (by first | omega | (simp only [zA, zS, zD, zN]; omega) | (dsimp only; omega) | (simp only [zA, zS, zD, zN]; dsimp only; omega)))
          have hO3 := HO.out.kept hB3
          have HLV := Lib.hid hlv
          have hz3 := hB3.size
          have hll := HLE.out
          have hb0 : (VT.leavesL (s.take j)).length + (VT.leaves s[j]).length ≤ 17592186044416 := by omega
          clear hb3 hlv
          go_wp2_with (at_builtin; refine append_ints (o := ⟨some 25, _, _, _, _, _⟩) rfl _ _ rfl rfl hO3 rfl HLV.out.at (by omega) (by omega) ?_; intro v4 w4 h4 g4 n4)
          have hB4 : Below W0.heap.size W0 w4 := (hb2.trans (hB3.mono hzr)).grown g4 (by omega) (fun k hk => (World.ownsRow.lt hO3 k hk).1)
          have HO4 : Hid (OwnInts w4 W0.heap.size v4 (VT.leavesL (s.take (j + 1)))) := by show OwnInts _ _ _ _; rw [HST.out]; exact h4
          clear h4 g4 n4 hO3 HO
          go_wp2_with fail
          exact ⟨⟨j + 1, by omega, by go_num, hB4, HO4⟩, by simp [intOf]; omega⟩
        · have hj' : j = s.length := by omega
          have HO2 := HO.out
          rw [hj', List.take_length] at HO2
          have HO3 := Lib.hid HO2
          clear HO2 hj'
          have p1 : ¬ (j : Int) < (s.length : Int) := by omega
          go_wp2_with fail
          go_ret
          exact ⟨⟨_, rfl, (HO3.out.s HIN.out).mono (fun b hb _ => by have := (World.ownsRow.lt HO3.out b hb).1; omega)⟩, hBr⟩
end Go.Proofs.YtibmnifenfingaaGreatDoor
