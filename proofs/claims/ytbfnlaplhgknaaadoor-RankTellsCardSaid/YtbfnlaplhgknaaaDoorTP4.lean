/- The walk through the document's answer on all tapes. -/
import Derived.Test.YtbfnlaplhgknaaaDoorTP3
namespace Go.Proofs.YtbfnlaplhgknaaaDoor
set_option maxRecDepth 100000
open Go.RowKit
set_option linter.unusedSimpArgs false
set_option linter.unusedVariables false
namespace GT
/-- What stands after some of all. -/
def bothAt (s : List GT) (j : Nat) : List (List Int) := (tpsL (s.take j)).foldl mulL [[]]
theorem bothAt_step (s : List GT) (j : Nat) (h : j < s.length) : bothAt s (j + 1) = mulL (bothAt s j) (tps s[j]) := by
  unfold bothAt
  rw [List.take_add_one, List.getElem?_eq_getElem h, tpsL_map, tpsL_map, List.map_append, List.foldl_append]
  rfl
theorem bothAt_enum (s : List GT) (h : OkL s) (j : Nat) : Enum (s.take j) (bothAt s j) := by
  have := Enum.fold (s.take j) [] [[]] (fun x hx => tps_enum x (h x (List.mem_of_mem_take hx))) Enum.nil
  rw [List.nil_append] at this
  exact this
theorem bothAt_len (s : List GT) (h : OkL s) (hp : prodL s ≤ 3000) (j : Nat) : (bothAt s j).length ≤ 3000 ∧ ∀ x ∈ bothAt s j, x.length ≤ costL s := by
  have h1 := bothAt_enum s h j
  have h2 := (prodL_take_le s h j).2
  refine ⟨by have := h1.1; omega, fun x hx => ?_⟩
  have h3 := h1.len (fun y hy => h y (List.mem_of_mem_take hy)) x hx
  have h4 : costL (s.take j) ≤ costL s := by
    have e := costL_append' (s.take j) (s.drop j)
    rw [List.take_append_drop] at e
    omega
  omega
theorem count_le {s : List GT} (h : OkL s) (hp : prodL s ≤ 3000) {j : Nat} (hj : j < s.length) : count s[j] ≤ 3000 := by
  have h1 := prodL_take_succ s j hj
  have h2 := prodL_take_le s h j
  have h3 := (prodL_take_le s h (j + 1)).2
  have h4 := (h _ (List.getElem_mem hj)).pos
  have h5 : 1 * count s[j] ≤ prodL (s.take j) * count s[j] := Int.mul_le_mul_of_nonneg_right h2.1 (by omega)
  omega
theorem tps_bd {x : GT} (h : Ok x) : ((tps x).length : Int) = count x ∧ ∀ y ∈ tps x, y.length ≤ cost x := by
  have h1 := tps_enum x h
  refine ⟨by have := h1.1; simpa [prodL] using this, fun y hy => ?_⟩
  have := h1.len (fun z hz => by rw [List.mem_singleton.1 hz]; exact h) y hy
  simpa [costL] using this
theorem anyF_snoc (B : List (List Int)) : ∀ (T : List (List (List Int))) (j : Nat), anyF (T ++ [B]) j = anyF T j ++ mulL [[((j + T.length : Nat) : Int)]] B := by
  intro T
  induction T with
  | nil => intro j; simp [anyF]
  | cons C T ih =>
    intro j
    simp only [List.cons_append, anyF, ih, List.append_assoc, List.length_cons]
    rw [show j + 1 + T.length = j + (T.length + 1) by omega]
theorem anyF_num (j : Nat) : anyF (List.replicate (j + 1) [[]]) 0 = anyF (List.replicate j [[]]) 0 ++ [[(j : Int)]] := by
  rw [List.replicate_succ', anyF_snoc]
  simp [mulL]
theorem anyF_any (s : List GT) (j : Nat) (h : j < s.length) : anyF (tpsL (s.take (j + 1))) 0 = anyF (tpsL (s.take j)) 0 ++ mulL [[(j : Int)]] (tps s[j]) := by
  rw [List.take_add_one, List.getElem?_eq_getElem h, tpsL_map, tpsL_map, List.map_append, Option.toList_some, List.map_singleton, anyF_snoc]
  have e : (List.map tps (List.take j s)).length = j := by simp; omega
  rw [e, Nat.zero_add]
theorem sumL_take (s : List GT) (h : OkL s) (j : Nat) : ((anyF (tpsL (s.take j)) 0).length : Int) ≤ sumL s := by
  induction s generalizing j with
  | nil => simp [tpsL, anyF, sumL]
  | cons x s ih =>
    have hx := h.cons.1
    have h1 := (tps_bd hx).1
    have h2 := hx.pos
    cases j with
    | zero => simp [tpsL, anyF, sumL]; have := sumL_nonneg s (fun y hy => by have := (h.cons.2 y hy).pos; omega); omega
    | succ j =>
      have h3 := ih h.cons.2 j
      rw [anyF_len] at h3 ⊢
      simp only [List.take_succ_cons, tpsL, sumN, sumL]
      omega
theorem len_sumL (s : List GT) (h : OkL s) : (s.length : Int) ≤ sumL s := by
  induction s with
  | nil => simp [sumL]
  | cons x s ih =>
    have h1 := h.cons.1.pos
    have h2 := ih h.cons.2
    simp only [List.length_cons, sumL]
    omega
theorem anyF_numlen (j : Nat) : (anyF (List.replicate j [[]]) 0).length = j := by
  induction j with
  | zero => rfl
  | succ j ih => rw [anyF_num, List.length_append, ih]; rfl
/-- What stands after some lengths. -/
def manyAt (B : List (List Int)) (j : Nat) : List (List Int) := anyF ((List.range j).map (powF B)) 0
theorem manyAt_step (B : List (List Int)) (j : Nat) : manyAt B (j + 1) = manyAt B j ++ mulL [[(j : Int)]] (powF B j) := by
  unfold manyAt
  rw [List.range_succ, List.map_append, List.map_singleton, anyF_snoc]
  simp
theorem manyAt_pre (B : List (List Int)) (j : Nat) : ∀ k, ∃ R, manyAt B (j + k) = manyAt B j ++ R := by
  intro k
  induction k with
  | zero => exact ⟨[], by simp⟩
  | succ k ih =>
    obtain ⟨R, h⟩ := ih
    exact ⟨_, by rw [← Nat.add_assoc, manyAt_step, h, List.append_assoc]⟩
theorem manyAt_bd (B : List (List Int)) (N M L : Nat) (h1 : (manyAt B (N + 1)).length ≤ M) (h2 : ∀ x ∈ manyAt B (N + 1), x.length ≤ L) :
    (∀ j, j ≤ N + 1 → (manyAt B j).length ≤ M) ∧ (∀ j, j ≤ N → (powF B j).length ≤ M ∧ ∀ x ∈ powF B j, x.length ≤ L) := by
  have hp : ∀ j, j ≤ N + 1 → ∃ R, manyAt B (N + 1) = manyAt B j ++ R := fun j hj => by
    obtain ⟨R, h⟩ := manyAt_pre B j (N + 1 - j)
    exact ⟨R, by rw [← h]; congr 1; omega⟩
  refine ⟨fun j hj => ?_, fun j hj => ?_⟩
  · obtain ⟨R, h⟩ := hp j hj
    rw [h, List.length_append] at h1; omega
  · obtain ⟨R, h⟩ := hp (j + 1) (by omega)
    have e := manyAt_step B j
    rw [h, e] at h1 h2
    refine ⟨?_, fun x hx => ?_⟩
    · simp only [List.length_append, mulL_len, List.length_singleton, Nat.one_mul] at h1; omega
    · have h3 : x.length + 1 ≤ L := h2 ((j : Int) :: x) (by simp [mulL, hx])
      omega
theorem powF_one (B : List (List Int)) : powF B 1 = B := by simp [powF, mulL]
theorem many_tps (N : Nat) (b : Int) (x : GT) : tps (.mk 4 (N : Int) b [x]) = manyAt (tps x) (N + 1) := by
  unfold manyAt
  simp [tps, tpsL]
end GT
theorem RwAt.single {w : World} {S : Nat → Prop} {b : Nat} (hb : Blk w b #[.slice none 0 0] 25) (hS : S b) : RwAt IntsS w S (.slice (some ⟨b, 0, none⟩) 1 1) [[]] := by
  refine ⟨_, _, rfl, by simp, by decide, (fun e => by cases e), fun _ => ⟨b, 0, rfl, hb.lt, hS, fun i hi => ?_⟩⟩
  have : i = 0 := by simpa using hi
  subst this
  exact ⟨_, hb.cell 0, by simp, none, 0, rfl, by simp, by decide, fun _ => rfl, fun h => absurd h (by simp)⟩
theorem RwAt.extI {w w' : World} {S : Nat → Prop} {v : Value} {B : List (List Int)} (h : RwAt IntsS w S v B) (hb : Below w.heap.size w w') : RwAt IntsS w' S v B := h.keep IntsS.reads hb.size (fun b hs hl => ⟨hs, hb.block b hl⟩)
theorem rw_num (w : World) (j : Nat) (hj : j ≤ 3000) : RwAt IntsS ((w.alloc (.cells #[.int .i64 j] 3)).alloc (.cells #[.slice (some ⟨w.heap.size, 0, none⟩) 1 1] 25)) (fun b => w.heap.size ≤ b) (.slice (some ⟨w.heap.size + 1, 0, none⟩) 1 1) [[(j : Int)]] := by
  have XB : Blk ((w.alloc (.cells #[.int .i64 j] 3)).alloc (.cells #[.slice (some ⟨w.heap.size, 0, none⟩) 1 1] 25)) (w.heap.size + 1) #[.slice (some ⟨w.heap.size, 0, none⟩) 1 1] 25 := by simpa using Blk.new (w.alloc (.cells #[.int .i64 j] 3)) #[.slice (some ⟨w.heap.size, 0, none⟩) 1 1] 25
  have XA : Blk ((w.alloc (.cells #[.int .i64 j] 3)).alloc (.cells #[.slice (some ⟨w.heap.size, 0, none⟩) 1 1] 25)) w.heap.size #[.int .i64 j] 3 := (Blk.new w #[.int .i64 j] 3).alloc _
  have hj64 : In64 (j : Int) := ⟨by omega, by omega⟩
  refine ⟨_, _, rfl, by simp, by decide, (fun e => by cases e), fun _ => ⟨_, 0, rfl, XB.lt, by omega, fun i hi => ?_⟩⟩
  have : i = 0 := by simpa using hi
  subst this
  refine ⟨_, XB.cell 0, by simpa using hj64, _, _, rfl, by simp, by decide, (fun e => by cases e), fun _ => ⟨w.heap.size, 0, rfl, XA.lt, by omega, fun i hi => ?_⟩⟩
  have : i = 0 := by simpa using hi
  subst this
  exact XA.cell 0
set_option maxHeartbeats 4000000 in
theorem rtapes_any (g : GT) : ∀ (v : Value) (w : World), GT.Ok g → GT.count g ≤ 3000 → GenAt w v g → Calls Tryd.prog 23 #[v] w fun e w' => (∃ u, e = .returned u ∧ RwAt IntsS w' (fun b => w.heap.size ≤ b) u (GT.tps g)) ∧ Below w.heap.size w w' := by
  induction g using GT.ind with
  | h k a b s ih =>
    intro v w hok hcn hg
    have hcost := GT.cost_ok hok.1
    obtain ⟨k', a', b', s', ad, cap, hmk, rfl, hk, ha, hb, hl, hm, hs⟩ := hg.form
    obtain ⟨rfl, rfl, rfl, rfl⟩ := GT.mk.inj hmk
    clear hg hmk
    have IH := Lib.hid ih
    clear ih
    rcases GT.one_cases (GT.ok_one (GT.check_ok hok.1)) with ⟨rfl, _⟩ | ⟨rfl, hn1, h0, h0', h1, h2⟩ | rfl | ⟨rfl, h1, h2, h3⟩ | ⟨rfl, h1⟩
    · have HE : Hid (GT.tps (.mk 1 a b s) = [[]]) := by show _ = _; simp [GT.tps]
      go_enter Tryd.func23, Tryd.ntmps23
      go_wp2_with fail
      go_ret
      refine ⟨⟨_, rfl, ?_⟩, by repeat (first | with_reducible assumption | with_reducible exact Below.refl _ _ | with_reducible apply Below.drew | (with_reducible refine Below.alloc ?_ (by first | omega | (simp only [World.size_alloc, size_setCell, size_drew, size_drewN]; omega) | (dsimp only; omega) | (simp only [World.size_alloc, size_setCell, size_drew, size_drewN]; dsimp only; omega)) _) | (with_reducible refine Below.setCell ?_ (by first | omega | (simp only [World.size_alloc, size_setCell, size_drew, size_drewN]; omega) | (dsimp only; omega) | (simp only [World.size_alloc, size_setCell, size_drew, size_drewN]; dsimp only; omega)) _) | (with_reducible apply below_drewN))⟩
      rw [HE.out]
      refine RwAt.single ?_ (by simp)
      simpa using Blk.new (w.alloc _) #[.slice none 0 0] 25
    · obtain rfl : s = [] := by first | exact List.eq_nil_of_length_eq_zero (by omega) | exact hn1 | simpa using hn1
      obtain ⟨N, hN⟩ : ∃ N : Nat, b - a = N := ⟨(b - a).toNat, by omega⟩
      have HE : Hid (GT.tps (.mk 2 a b []) = anyF (List.replicate (N + 1) [[]]) 0) := by
        show _ = _
        have e : (b - a + 1).toNat = N + 1 := by omega
        simp only [GT.tps, show ¬ ((2:Int) = 1) by decide, if_false, if_true, e]
      have hN3 : N ≤ 3000 := by simp [GT.count] at hcn; omega
      have HWR : IntKind.i64.wrap (b - a) = (N : Int) := by rw [hN]; exact IntWalk.i64_in _ ⟨by omega, by omega⟩
      clear hcost hok hcn hs
      simp only [List.length_nil]
      go_enter Tryd.func23, Tryd.ntmps23
      go_wp2_with fail
      generalize hWW : (w.alloc (.cells #[.int .i64 2, .int .i64 a, .int .i64 b, .slice ad 0 cap] 24)) = W0
      have hB0 : Below w.heap.size w W0 := by rw [← hWW]; repeat (first | with_reducible assumption | with_reducible exact Below.refl _ _ | with_reducible apply Below.drew | (with_reducible refine Below.alloc ?_ (by first | omega | (simp only [World.size_alloc, size_setCell, size_drew, size_drewN]; omega) | (dsimp only; omega) | (simp only [World.size_alloc, size_setCell, size_drew, size_drewN]; dsimp only; omega)) _) | (with_reducible refine Below.setCell ?_ (by first | omega | (simp only [World.size_alloc, size_setCell, size_drew, size_drewN]; omega) | (dsimp only; omega) | (simp only [World.size_alloc, size_setCell, size_drew, size_drewN]; dsimp only; omega)) _) | (with_reducible apply below_drewN))
      have hz00 : w.heap.size < W0.heap.size := by rw [← hWW]; simp
      have X0 : Blk W0 w.heap.size #[.int .i64 2, .int .i64 a, .int .i64 b, .slice ad 0 cap] 24 := by rw [← hWW]; exact Blk.new _ _ _
      clear hWW
      go_loopw [3, 4] (fun o i wr => ∃ j : Nat, j ≤ N + 1 ∧ i = .int .i64 j ∧ Below w.heap.size w wr ∧ W0.heap.size ≤ wr.heap.size ∧ Blk wr w.heap.size #[.int .i64 2, .int .i64 a, .int .i64 b, .slice ad 0 cap] 24 ∧ Hid (OwnRw IntsS 25 wr W0.heap.size o (anyF (List.replicate j [[]]) 0))) (fun _ i _ => N + 1 - (intOf i).toNat)
      case atStart => exact ⟨0, by omega, rfl, hB0, Nat.le_refl _, X0, OwnRw.nil _ _ _ _⟩
      case round =>
        obtain ⟨j, hj, rfl, hbr, hw0, xr, HO⟩ := hrel
        have hzr := hbr.size
        have f0 := xr.cell 0
        have f1 := xr.cell 1
        have f2 := xr.cell 2
        have f3 := xr.cell 3
        simp only [List.getElem?_toArray, List.getElem?_cons_succ, List.getElem?_cons_zero] at f0 f1 f2 f3
        by_cases hlt : j < N + 1
        · have p1 : (j : Int) ≤ (N : Int) := by omega
          have hol := HO.out.lt
          have hxl := xr.lt
          have HST := Lib.hid (GT.anyF_num j)
          have hln : (anyF (List.replicate j [[]]) 0).length ≤ 1000000000 := by rw [GT.anyF_numlen]; omega
          have XB : Blk ((wr.alloc (.cells #[.int .i64 j] 3)).alloc (.cells #[.slice (some ⟨wr.heap.size, 0, none⟩) 1 1] 25)) (wr.heap.size + 1) #[.slice (some ⟨wr.heap.size, 0, none⟩) 1 1] 25 := by simpa using Blk.new (wr.alloc (.cells #[.int .i64 j] 3)) #[.slice (some ⟨wr.heap.size, 0, none⟩) 1 1] 25
          have XA : Blk ((wr.alloc (.cells #[.int .i64 j] 3)).alloc (.cells #[.slice (some ⟨wr.heap.size, 0, none⟩) 1 1] 25)) wr.heap.size #[.int .i64 j] 3 := (Blk.new wr #[.int .i64 j] 3).alloc _
          have HB2 : Hid (Below wr.heap.size wr ((wr.alloc (.cells #[.int .i64 j] 3)).alloc (.cells #[.slice (some ⟨wr.heap.size, 0, none⟩) 1 1] 25))) := ((Below.refl _ _).alloc (Nat.le_refl _) _).alloc (by simp) _
          have hj64 : In64 (j : Int) := ⟨by omega, by omega⟩
          have hR : ∀ x : Option Nat, (∀ b, x = some b → b < wr.heap.size) → W0.heap.size ≤ wr.heap.size → IntsS ((wr.alloc (.cells #[.int .i64 j] 3)).alloc (.cells #[.slice (some ⟨wr.heap.size, 0, none⟩) 1 1] 25)) (fun b => W0.heap.size ≤ b ∧ x ≠ some b) (.slice (some ⟨wr.heap.size, 0, none⟩) 1 1) [(j : Int)] := fun x hx h0 => ⟨by simpa using hj64, _, _, rfl, by simp, by decide, (fun e => by cases e), fun _ => ⟨wr.heap.size, 0, rfl, XA.lt, ⟨h0, fun e => by have := hx _ e; omega⟩, fun i hi => by
            have : i = 0 := by simpa using hi
            subst this
            exact XA.cell 0⟩⟩
          have HRR := Lib.hid hR
          clear hR
          go_wp2_with (at_builtin; refine append_rw IntsS.reads (B := anyF (List.replicate j [[]]) 0) (o := ⟨some 29, _, _, _, _, _⟩) (y := [(j : Int)]) rfl _ _ 54 25 rfl Tryd.underlying54 info_ints rfl (HO.out.keep IntsS.reads HB2.out) rfl XB (HRR.out _ (fun b hb => (hol b hb).2) hw0) hln (by have := HB2.out.size; omega) ?_; intro o6 w6 ho6 hg6 hat6)
          have hB6 : Below w.heap.size w w6 := (hbr.trans (HB2.out.mono hzr)).grown hg6 (by have := HB2.out.size; omega) (fun x hx => by have := (hol x hx).1; omega)
          have x6 : Blk w6 w.heap.size #[.int .i64 2, .int .i64 a, .int .i64 b, .slice ad 0 cap] 24 := (hg6.block _ (by have := HB2.out.size; omega) (fun e => by have := (hol _ e.symm).1; omega)).trans (xr.ext HB2.out)
          have HO6 : Hid (OwnRw IntsS 25 w6 W0.heap.size o6 (anyF (List.replicate (j + 1) [[]]) 0)) := by show OwnRw _ _ _ _ _ _; rw [HST.out]; exact ho6
          have hg6z : W0.heap.size ≤ w6.heap.size := by have := hg6.size; have := HB2.out.size; omega
          clear ho6 hg6 hat6
          go_wp2_with fail
          exact ⟨⟨j + 1, by omega, by go_num, hB6, by have := hg6z; omega, x6, HO6⟩, by simp [intOf]; omega⟩
        · have p1 : ¬ (j : Int) ≤ (N : Int) := by omega
          have hjn : j = N + 1 := by omega
          have h := HO.out
          rw [hjn, ← HE.out] at h
          have HR := Lib.hid (h.at IntsS.reads)
          clear h HO hjn
          go_wp2_with fail
          go_ret
          exact ⟨⟨_, rfl, HR.out.keep IntsS.reads (Nat.le_refl _) (fun b hs _ => ⟨by omega, rfl⟩)⟩, hbr⟩
    · have HE : Hid (GT.tps (.mk 3 a b s) = GT.bothAt s s.length) := by show _ = _; unfold GT.bothAt; rw [List.take_length]; simp [GT.tps]
      obtain ⟨hks, hcs⟩ := GT.ok_both hok
      have HKS := Lib.hid hks
      have hpl : GT.prodL s ≤ 3000 := by omega
      have hcc : GT.costL s ≤ 1399680 := by simpa [GT.cost] using hcost
      have HBL := Lib.hid (GT.bothAt_len s hks hpl)
      have HPL := Lib.hid hpl
      clear hks hcs hok hcn hcost hpl
      obtain ⟨sn, hsn⟩ : ∃ n, n = s.length := ⟨_, rfl⟩
      rw [← hsn] at hl ⊢
      have HSN := Lib.hid hsn
      clear hsn
      go_enter Tryd.func23, Tryd.ntmps23
      go_wp2_with fail
      generalize hWW : (w.alloc (.cells #[.int .i64 3, .int .i64 a, .int .i64 b, .slice ad sn cap] 24)).alloc (.cells #[.slice none 0 0] 25) = W0
      have hB0 : Below w.heap.size w W0 := by rw [← hWW]; repeat (first | with_reducible assumption | with_reducible exact Below.refl _ _ | with_reducible apply Below.drew | (with_reducible refine Below.alloc ?_ (by first | omega | (simp only [World.size_alloc, size_setCell, size_drew, size_drewN]; omega) | (dsimp only; omega) | (simp only [World.size_alloc, size_setCell, size_drew, size_drewN]; dsimp only; omega)) _) | (with_reducible refine Below.setCell ?_ (by first | omega | (simp only [World.size_alloc, size_setCell, size_drew, size_drewN]; omega) | (dsimp only; omega) | (simp only [World.size_alloc, size_setCell, size_drew, size_drewN]; dsimp only; omega)) _) | (with_reducible apply below_drewN))
      have X0 : Blk W0 w.heap.size #[.int .i64 3, .int .i64 a, .int .i64 b, .slice ad sn cap] 24 := by rw [← hWW]; exact (Blk.new _ _ _).alloc _
      have X1 : Blk W0 (w.heap.size + 1) #[.slice none 0 0] 25 := by rw [← hWW]; simpa using Blk.new (w.alloc (.cells #[.int .i64 3, .int .i64 a, .int .i64 b, .slice ad sn cap] 24)) #[.slice none 0 0] 25
      have hs1 := hs.ext hB0
      have HO0 : Hid (RwAt IntsS W0 (fun b => w.heap.size ≤ b) (.slice (some ⟨w.heap.size + 1, 0, none⟩) 1 1) (GT.bothAt s 0)) := RwAt.single X1 (by omega)
      clear hs hWW X1
      go_loopw [3, 6] (fun o i wr => ∃ j : Nat, j ≤ sn ∧ i = .int .i64 j ∧ Below W0.heap.size W0 wr ∧ Hid (RwAt IntsS wr (fun b => w.heap.size ≤ b) o (GT.bothAt s j))) (fun _ i _ => sn - (intOf i).toNat)
      case atStart => exact ⟨0, by omega, rfl, Below.refl _ _, HO0⟩
      case round =>
        obtain ⟨j, hj, rfl, hb2, HO⟩ := hrel
        have hzr := hb2.size
        have hz0 := hB0.size
        have hBr : Below w.heap.size w wr := hB0.trans (hb2.mono hB0.size)
        have xr := X0.ext hb2
        have f0 := xr.cell 0
        have f1 := xr.cell 1
        have f2 := xr.cell 2
        have f3 := xr.cell 3
        simp only [List.getElem?_toArray, List.getElem?_cons_succ, List.getElem?_cons_zero] at f0 f1 f2 f3
        by_cases hlt : j < sn
        · have p0 : (0 : Int) ≤ (j : Int) := by omega
          have p1 : (j : Int) < (sn : Int) := by omega
          have hjs : j < s.length := by rw [← HSN.out]; exact hlt
          obtain ⟨bl, off, rfl, hlt1, hc⟩ := (hs1.ext hb2).at' (by omega)
          obtain ⟨k2, a2, b2, t2, ad2, cap2, c0, c1, c2, c3, hg2⟩ := hc j hjs
          have CK := Lib.hid (IH.out s[j] (List.getElem_mem hjs) (.agg #[.int .i64 k2, .int .i64 a2, .int .i64 b2, .slice ad2 t2 cap2]) wr (HKS.out _ (List.getElem_mem hjs)) (GT.count_le HKS.out HPL.out hjs) hg2)
          have hl1 := HBL.out j
          have hen := Lib.hid (GT.tps_enum _ (HKS.out _ (List.getElem_mem hjs)))
          clear hc hs1
          go_wp2_with fail
          refine CK.out.mono ?_
          rintro e w3 ⟨⟨u3, rfl, hu3⟩, hb3⟩
          have hB3 : Below W0.heap.size W0 w3 := hb2.trans (hb3.mono hzr)
          have HO3 := Lib.hid (HO.out.keep IntsS.reads hb3.size (fun b hs hl => ⟨hs, hb3.block b hl⟩))
          have HST := Lib.hid (GT.bothAt_step s j hjs)
          have HTL := Lib.hid (GT.tps_bd (HKS.out _ (List.getElem_mem hjs)))
          have HCL := Lib.hid (GT.count_le HKS.out HPL.out hjs)
          have hmn : (GT.bothAt s j).length * (GT.tps s[j]).length ≤ 1000000000 := by
            have h := (HBL.out (j + 1)).1
            rw [HST.out, mulL_len] at h
            omega
          have HCO := Lib.hid (GT.cost_le s j hjs)
          clear hb3 f0 f1 f2 f3
          go_wp2_with fail
          refine (rtimes_any (GT.bothAt s j) (GT.tps s[j]) 1399680 (by omega) (fun x hx => by have := (HBL.out j).2 x hx; omega) (fun x hx => by have := HTL.out.2 x hx; have := HCO.out; omega) hmn (by omega) (by have := HTL.out.1; have := HCL.out; omega) _ _ _ _ _ HO3.out hu3).mono ?_
          rintro e w4 ⟨⟨u4, rfl, hu4⟩, hb4⟩
          have hB4 : Below W0.heap.size W0 w4 := hB3.trans (hb4.mono hB3.size)
          have HO4 : Hid (RwAt IntsS w4 (fun b => w.heap.size ≤ b) u4 (GT.bothAt s (j + 1))) := by
            show RwAt _ _ _ _ _
            rw [HST.out]
            exact (hu4.at IntsS.reads).keep IntsS.reads (Nat.le_refl _) (fun b hs _ => ⟨by have := hB3.size; omega, rfl⟩)
          clear hb4 hu4 hu3 hmn
          go_wp2_with fail
          exact ⟨⟨j + 1, by omega, by go_num, hB4, HO4⟩, by simp [intOf]; omega⟩
        · have hjn : j = s.length := by rw [← HSN.out]; omega
          have p1 : ¬ (j : Int) < (sn : Int) := by omega
          have h := HO.out
          rw [hjn, ← HE.out] at h
          have HR := Lib.hid h
          clear h HO hjn
          go_wp2_with fail
          go_ret
          exact ⟨⟨_, rfl, HR.out⟩, hBr⟩
    · obtain ⟨x, rfl⟩ : ∃ x, s = [x] := List.length_eq_one_iff.1 h1
      obtain ⟨N, rfl⟩ : ∃ N : Nat, a = (N : Int) := ⟨a.toNat, by omega⟩
      have HE : Hid (GT.tps (.mk 4 (N : Int) b [x]) = GT.manyAt (GT.tps x) (N + 1)) := GT.many_tps N b x
      have hbt := GT.tps_bd hok
      rw [HE.out] at hbt
      obtain ⟨hT, hP⟩ := GT.manyAt_bd (GT.tps x) N 3000 1399680 (by have := hbt.1; omega) (fun y hy => by have := hbt.2 y hy; omega)
      have HXO : Hid (0 < N → GT.Ok x) := fun h => (GT.ok_many hok).2 (by omega)
      have HXC : Hid (0 < N → GT.count x ≤ 3000) := fun h => by
        have h1 := (GT.tps_bd (HXO.out h)).1
        have h2 := (hP 1 h).1
        rw [GT.powF_one] at h2
        omega
      have HXL : Hid (0 < N → (GT.tps x).length ≤ 3000 ∧ ∀ y ∈ GT.tps x, y.length ≤ 1399680) := fun h => by have := hP 1 h; rw [GT.powF_one] at this; exact this
      have HPM : Hid (∀ j, j < N → (powF (GT.tps x) j).length * (GT.tps x).length ≤ 3000) := fun j h => by have := (hP (j + 1) h).1; simpa [powF, mulL_len] using this
      have HT := Lib.hid hT
      have HPB := Lib.hid hP
      have hN5 : N ≤ 5 := by omega
      clear hT hP hbt hcost hok hcn h1 h2 h3
      simp only [List.length_singleton] at hl ⊢
      obtain ⟨bl, off, rfl, hlt1, hc⟩ := hs.at' (by simp)
      obtain ⟨k2, a2, b2, t2, ad2, cap2, c0, c1, c2, c3, hg2⟩ := hc 0 (by simp)
      simp only [Nat.zero_mul, Nat.add_zero] at c0 c1 c2 c3
      have HG2 : Hid (GenAt w (.agg #[.int .i64 k2, .int .i64 a2, .int .i64 b2, .slice ad2 t2 cap2]) x) := hg2
      clear hc hg2 hs
      go_enter Tryd.func23, Tryd.ntmps23
      go_wp2_with fail
      generalize hWW : ((w.alloc (.cells #[.int .i64 4, .int .i64 (N : Int), .int .i64 b, .slice (some ⟨bl, off, none⟩) 1 cap] 24)).alloc (.cells #[.slice none 0 0] 25)).alloc (.cells #[.slice none 0 0] 25) = W0
      have hB0 : Below w.heap.size w W0 := by rw [← hWW]; repeat (first | with_reducible assumption | with_reducible exact Below.refl _ _ | with_reducible apply Below.drew | (with_reducible refine Below.alloc ?_ (by first | omega | (simp only [World.size_alloc, size_setCell, size_drew, size_drewN]; omega) | (dsimp only; omega) | (simp only [World.size_alloc, size_setCell, size_drew, size_drewN]; dsimp only; omega)) _) | (with_reducible refine Below.setCell ?_ (by first | omega | (simp only [World.size_alloc, size_setCell, size_drew, size_drewN]; omega) | (dsimp only; omega) | (simp only [World.size_alloc, size_setCell, size_drew, size_drewN]; dsimp only; omega)) _) | (with_reducible apply below_drewN))
      have hz00 : w.heap.size + 1 + 1 < W0.heap.size := by rw [← hWW]; simp
      have X0 : Blk W0 w.heap.size #[.int .i64 4, .int .i64 (N : Int), .int .i64 b, .slice (some ⟨bl, off, none⟩) 1 cap] 24 := by rw [← hWW]; exact ((Blk.new _ _ _).alloc _).alloc _
      have X1 : Blk W0 (w.heap.size + 1 + 1) #[.slice none 0 0] 25 := by rw [← hWW]; simpa using Blk.new ((w.alloc (.cells #[.int .i64 4, .int .i64 (N : Int), .int .i64 b, .slice (some ⟨bl, off, none⟩) 1 cap] 24)).alloc (.cells #[.slice none 0 0] 25)) #[.slice none 0 0] 25
      have HM0 : Hid (RwAt IntsS W0 (fun b => (Value.slice none 0 0).ownBlock ≠ some b) (.slice (some ⟨w.heap.size + 1 + 1, 0, none⟩) 1 1) (powF (GT.tps x) (min 0 N))) := by
        show RwAt _ _ _ _ _
        rw [Nat.zero_min]
        exact RwAt.single X1 (by simp [Value.ownBlock])
      clear hWW X1
      go_loopw [3, 7, 8] (fun o sm i wr => ∃ j : Nat, j ≤ N + 1 ∧ i = .int .i64 j ∧ Below w.heap.size w wr ∧ W0.heap.size ≤ wr.heap.size ∧ Blk wr w.heap.size #[.int .i64 4, .int .i64 (N : Int), .int .i64 b, .slice (some ⟨bl, off, none⟩) 1 cap] 24 ∧ Hid (OwnRw IntsS 25 wr W0.heap.size o (GT.manyAt (GT.tps x) j)) ∧ Hid (RwAt IntsS wr (fun b => o.ownBlock ≠ some b) sm (powF (GT.tps x) (min j N)))) (fun _ _ i _ => N + 1 - (intOf i).toNat)
      case atStart => exact ⟨0, by omega, rfl, hB0, Nat.le_refl _, X0, OwnRw.nil _ _ _ _, HM0⟩
      case round =>
        obtain ⟨j, hj, rfl, hbr, hw0, xr, HO, HM⟩ := hrel
        have hzr := hbr.size
        have f0 := xr.cell 0
        have f1 := xr.cell 1
        have f2 := xr.cell 2
        have f3 := xr.cell 3
        simp only [List.getElem?_toArray, List.getElem?_cons_succ, List.getElem?_cons_zero] at f0 f1 f2 f3
        by_cases hlt : j < N + 1
        · have p1 : (j : Int) ≤ (N : Int) := by omega
          rw [show min j N = j by omega] at HM
          have HST := Lib.hid (GT.manyAt_step (GT.tps x) j)
          have hxl := xr.lt
          have hA1 : ∀ x ∈ [[(j : Int)]], x.length ≤ 1399680 := by
            intro x hx
            have : x = [(j : Int)] := by simpa using hx
            rw [this]; simp
          have HA1 := Lib.hid hA1
          clear hA1
          go_wp2_with fail
          have HN0 := Lib.hid (rw_num wr j (by omega))
          have HB2 : Hid (Below wr.heap.size wr ((wr.alloc (.cells #[.int .i64 j] 3)).alloc (.cells #[.slice (some ⟨wr.heap.size, 0, none⟩) 1 1] 25))) := ((Below.refl _ _).alloc (Nat.le_refl _) _).alloc (by simp) _
          generalize (wr.alloc (.cells #[.int .i64 j] 3)).alloc (.cells #[.slice (some ⟨wr.heap.size, 0, none⟩) 1 1] 25) = W2 at *
          have HM2 := Lib.hid (HM.out.extI HB2.out)
          have hpj := HPB.out j (by omega)
          refine (rtimes_any [[(j : Int)]] (powF (GT.tps x) j) 1399680 (by omega) HA1.out hpj.2 (by have := hpj.1; simp; omega) (by simp) (by have := hpj.1; omega) _ _ _ _ _ HN0.out HM2.out).mono ?_
          rintro e w4 ⟨⟨u4, rfl, hu4⟩, hb4⟩
          have HB4 := Lib.hid (HB2.out.trans (hb4.mono HB2.out.size))
          have hol := HO.out.lt
          have HU4 := Lib.hid (hu4.at IntsS.reads)
          have HM4 := Lib.hid (HM2.out.extI hb4)
          have h24 := hb4.size
          clear hb4 hu4 HN0
          by_cases hjN : j < N
          · have p2 : (j : Int) < (N : Int) := by omega
            have CK := Lib.hid (fun W (h : Below w.heap.size w W) => IH.out x (by simp) (.agg #[.int .i64 k2, .int .i64 a2, .int .i64 b2, .slice ad2 t2 cap2]) W (HXO.out (by omega)) (HXC.out (by omega)) (HG2.out.ext h))
            have HXB := Lib.hid (HXL.out (by omega))
            have HPN := Lib.hid (HPM.out j hjN)
            have HC := Lib.hid (And.intro c0 (And.intro c1 (And.intro c2 c3)))
            clear c0 c1 c2 c3
            go_wp2_with (at_builtin; refine append_rws IntsS.reads (B := GT.manyAt (GT.tps x) j) (C := mulL [[(j : Int)]] (powF (GT.tps x) j)) (o := ⟨some 87, _, _, _, _, _⟩) rfl _ _ 54 25 rfl Tryd.underlying54 info_ints rfl (HO.out.keep IntsS.reads HB4.out) rfl (HU4.out.keep IntsS.reads (Nat.le_refl _) (fun b hs _ => ⟨⟨by have := HB2.out.size; omega, fun e => by have := hol _ e; have := HB2.out.size; omega⟩, rfl⟩)) (by have h := HT.out (j + 1) (by omega); rw [HST.out, List.length_append] at h; omega) (by have := HB4.out.size; omega) ?_; intro o6 w6 ho6 hg6 hat6; have hB6 : Below w.heap.size w w6 := (hbr.trans (HB4.out.mono hzr)).grown hg6 (by have := HB4.out.size; omega) (fun x hx => by have := (hol x hx).1; omega); have x6 : Blk w6 w.heap.size #[.int .i64 4, .int .i64 (N : Int), .int .i64 b, .slice (some ⟨bl, off, none⟩) 1 cap] 24 := (hg6.block _ (by have := HB4.out.size; omega) (fun e => by have := (hol _ e.symm).1; omega)).trans (xr.ext HB4.out); have f61 : w6.cell? ⟨w.heap.size, 1, none⟩ = some (.int .i64 (N : Int)) := x6.cell 1; have f63 : w6.cell? ⟨w.heap.size, 3, none⟩ = some (.slice (some ⟨bl, off, none⟩) 1 cap) := x6.cell 3; have g0 := (hB6.cell (p := ⟨bl, off, none⟩) hlt1).trans HC.out.1; have g1 := (hB6.cell (p := ⟨bl, off + 1, none⟩) hlt1).trans HC.out.2.1; have g2 := (hB6.cell (p := ⟨bl, off + 2, none⟩) hlt1).trans HC.out.2.2.1; have g3 := (hB6.cell (p := ⟨bl, off + 3, none⟩) hlt1).trans HC.out.2.2.2)
            refine (CK.out _ hB6).mono ?_
            rintro e w7 ⟨⟨u7, rfl, hu7⟩, hb7⟩
            have HO6 : Hid (OwnRw IntsS 25 w6 W0.heap.size o6 (GT.manyAt (GT.tps x) (j + 1))) := by show OwnRw _ _ _ _ _ _; rw [HST.out]; exact ho6
            have hg6z : W0.heap.size ≤ w6.heap.size := by have := hg6.size; have := HB4.out.size; omega
            have HM6 := Lib.hid (HM4.out.keep IntsS.reads hg6.size (fun b hs hl => ⟨trivial, hg6.block b hl (fun e => hs e.symm)⟩) : RwAt IntsS w6 (fun _ => True) _ (powF (GT.tps x) j))
            have HM7 := Lib.hid (HM6.out.extI hb7)
            have HO7 := Lib.hid (HO6.out.keep IntsS.reads hb7)
            have hB7 := hB6.trans (hb7.mono hB6.size)
            have x7 := x6.ext hb7
            have h67 := hb7.size
            have HU7 := Lib.hid hu7
            clear f61 f63 g0 g1 g2 g3 x6 ho6 hg6 hat6 HO6 HM6 hb7 hu7 hB6
            go_wp2_with fail
            refine (rtimes_any (powF (GT.tps x) j) (GT.tps x) 1399680 (by omega) hpj.2 HXB.out.2 (by have := HPN.out; omega) (by have := hpj.1; omega) (by have := HXB.out.1; omega) _ _ _ _ _ HM7.out HU7.out).mono ?_
            rintro e w8 ⟨⟨u8, rfl, hu8⟩, hb8⟩
            have HO8 := Lib.hid (HO7.out.keep IntsS.reads hb8)
            have hol8 := HO7.out.lt
            have hB8 := hB7.trans (hb8.mono hB7.size)
            have x8 := x7.ext hb8
            have h78 := hb8.size
            have HM8 : Hid (RwAt IntsS w8 (fun b => o6.ownBlock ≠ some b) u8 (powF (GT.tps x) (min (j + 1) N))) := by
              show RwAt _ _ _ _ _
              rw [show min (j + 1) N = j + 1 by omega]
              exact (hu8.at IntsS.reads).keep IntsS.reads (Nat.le_refl _) (fun b hs _ => ⟨fun e => by have := (hol8 b e).2; omega, rfl⟩)
            clear hu8 hb8
            go_wp2_with fail
            exact ⟨⟨j + 1, by omega, by go_num, hB8, by omega, x8, HO8, HM8⟩, by simp [intOf]; omega⟩
          · have p2 : ¬ (j : Int) < (N : Int) := by omega
            go_wp2_with (at_builtin; refine append_rws IntsS.reads (B := GT.manyAt (GT.tps x) j) (C := mulL [[(j : Int)]] (powF (GT.tps x) j)) (o := ⟨some 87, _, _, _, _, _⟩) rfl _ _ 54 25 rfl Tryd.underlying54 info_ints rfl (HO.out.keep IntsS.reads HB4.out) rfl (HU4.out.keep IntsS.reads (Nat.le_refl _) (fun b hs _ => ⟨⟨by have := HB2.out.size; omega, fun e => by have := hol _ e; have := HB2.out.size; omega⟩, rfl⟩)) (by have h := HT.out (j + 1) (by omega); rw [HST.out, List.length_append] at h; omega) (by have := HB4.out.size; omega) ?_; intro o6 w6 ho6 hg6 hat6; have hB6 : Below w.heap.size w w6 := (hbr.trans (HB4.out.mono hzr)).grown hg6 (by have := HB4.out.size; omega) (fun x hx => by have := (hol x hx).1; omega); have x6 : Blk w6 w.heap.size #[.int .i64 4, .int .i64 (N : Int), .int .i64 b, .slice (some ⟨bl, off, none⟩) 1 cap] 24 := (hg6.block _ (by have := HB4.out.size; omega) (fun e => by have := (hol _ e.symm).1; omega)).trans (xr.ext HB4.out); have f61 : w6.cell? ⟨w.heap.size, 1, none⟩ = some (.int .i64 (N : Int)) := x6.cell 1; have f63 : w6.cell? ⟨w.heap.size, 3, none⟩ = some (.slice (some ⟨bl, off, none⟩) 1 cap) := x6.cell 3)
            have HO6 : Hid (OwnRw IntsS 25 w6 W0.heap.size o6 (GT.manyAt (GT.tps x) (j + 1))) := by show OwnRw _ _ _ _ _ _; rw [HST.out]; exact ho6
            have hg6z : W0.heap.size ≤ w6.heap.size := by have := hg6.size; have := HB4.out.size; omega
            have HM6 : Hid (RwAt IntsS w6 (fun b => o6.ownBlock ≠ some b) u7 (powF (GT.tps x) (min (j + 1) N))) := by
              show RwAt _ _ _ _ _
              rw [show min (j + 1) N = j by omega]
              refine RwAt.keep (S' := fun b => o6.ownBlock ≠ some b) IntsS.reads HM4.out hg6.size (fun b hs hl => ⟨fun e6 => ?_, hg6.block b hl (fun e => hs e.symm)⟩)
              rcases hat6 with e | e
              · exact hs (e.symm.trans e6)
              · have := Option.some.inj (e.symm.trans e6)
                omega
            clear ho6 hg6 hat6
            exact ⟨⟨j + 1, by omega, by go_num, hB6, hg6z, x6, HO6, HM6⟩, by simp [intOf]; omega⟩
        · have p1 : ¬ (j : Int) ≤ (N : Int) := by omega
          have hjn : j = N + 1 := by omega
          have h := HO.out
          rw [hjn, ← HE.out] at h
          have HR := Lib.hid (h.at IntsS.reads)
          clear h HO HM hjn
          go_wp2_with fail
          go_ret
          exact ⟨⟨_, rfl, HR.out.keep IntsS.reads (Nat.le_refl _) (fun b hs _ => ⟨by omega, rfl⟩)⟩, hbr⟩
    · have HE : Hid (GT.tps (.mk 5 a b s) = anyF (GT.tpsL (s.take s.length)) 0) := by show _ = _; rw [List.take_length]; simp [GT.tps]
      obtain ⟨hks, hcs⟩ := GT.ok_any hok
      have HKS := Lib.hid hks
      have hpl : GT.sumL s ≤ 3000 := by omega
      have HPL := Lib.hid hpl
      have hcc : GT.costL s ≤ 1399680 := by simp [GT.cost] at hcost; omega
      have HBL : Hid (∀ j, (anyF (GT.tpsL (s.take j)) 0).length ≤ 3000) := fun j => by have := GT.sumL_take s hks j; omega
      have hsn3 : s.length ≤ 3000 := by have := GT.len_sumL s hks; omega
      clear hks hcs hok hcn hcost hpl h1
      obtain ⟨sn, hsn⟩ : ∃ n, n = s.length := ⟨_, rfl⟩
      rw [← hsn] at hl ⊢
      have HSN := Lib.hid hsn
      clear hsn
      go_enter Tryd.func23, Tryd.ntmps23
      go_wp2_with fail
      generalize hWW : (w.alloc (.cells #[.int .i64 5, .int .i64 a, .int .i64 b, .slice ad sn cap] 24)) = W0
      have hB0 : Below w.heap.size w W0 := by rw [← hWW]; repeat (first | with_reducible assumption | with_reducible exact Below.refl _ _ | with_reducible apply Below.drew | (with_reducible refine Below.alloc ?_ (by first | omega | (simp only [World.size_alloc, size_setCell, size_drew, size_drewN]; omega) | (dsimp only; omega) | (simp only [World.size_alloc, size_setCell, size_drew, size_drewN]; dsimp only; omega)) _) | (with_reducible refine Below.setCell ?_ (by first | omega | (simp only [World.size_alloc, size_setCell, size_drew, size_drewN]; omega) | (dsimp only; omega) | (simp only [World.size_alloc, size_setCell, size_drew, size_drewN]; dsimp only; omega)) _) | (with_reducible apply below_drewN))
      have hz00 : w.heap.size < W0.heap.size := by rw [← hWW]; simp
      have X0 : Blk W0 w.heap.size #[.int .i64 5, .int .i64 a, .int .i64 b, .slice ad sn cap] 24 := by rw [← hWW]; exact Blk.new _ _ _
      clear hWW
      go_loopw [3, 5] (fun o i wr => ∃ j : Nat, j ≤ sn ∧ i = .int .i64 j ∧ Below w.heap.size w wr ∧ W0.heap.size ≤ wr.heap.size ∧ Blk wr w.heap.size #[.int .i64 5, .int .i64 a, .int .i64 b, .slice ad sn cap] 24 ∧ Hid (OwnRw IntsS 25 wr W0.heap.size o (anyF (GT.tpsL (s.take j)) 0))) (fun _ i _ => sn - (intOf i).toNat)
      case atStart => exact ⟨0, by omega, rfl, hB0, Nat.le_refl _, X0, OwnRw.nil _ _ _ _⟩
      case round =>
        obtain ⟨j, hj, rfl, hbr, hw0, xr, HO⟩ := hrel
        have hzr := hbr.size
        have f0 := xr.cell 0
        have f1 := xr.cell 1
        have f2 := xr.cell 2
        have f3 := xr.cell 3
        simp only [List.getElem?_toArray, List.getElem?_cons_succ, List.getElem?_cons_zero] at f0 f1 f2 f3
        by_cases hlt : j < sn
        · have p0 : (0 : Int) ≤ (j : Int) := by omega
          have p1 : (j : Int) < (sn : Int) := by omega
          have hjs : j < s.length := by rw [← HSN.out]; exact hlt
          obtain ⟨bl, off, rfl, hlt1, hc⟩ := (hs.ext hbr).at' (by omega)
          obtain ⟨k2, a2, b2, t2, ad2, cap2, c0, c1, c2, c3, hg2⟩ := hc j hjs
          have HG2 := Lib.hid hg2
          have HTL := Lib.hid (GT.tps_bd (HKS.out _ (List.getElem_mem hjs)))
          have HCL : Hid (GT.count s[j] ≤ 3000) := by
            show _ ≤ _
            have := GT.le_sumL s (fun x hx => (HKS.out x hx).pos) s[j] (List.getElem_mem hjs)
            have := HPL.out
            omega
          have HCO := Lib.hid (GT.cost_le s j hjs)
          have HST := Lib.hid (GT.anyF_any s j hjs)
          have hjx : j ≤ 3000 := by omega
          have hA1 : ∀ x ∈ [[(j : Int)]], x.length ≤ 1399680 := by
            intro x hx
            have : x = [(j : Int)] := by simpa using hx
            rw [this]; simp
          have CK := Lib.hid (fun W (h : Below wr.heap.size wr W) => IH.out s[j] (List.getElem_mem hjs) (.agg #[.int .i64 k2, .int .i64 a2, .int .i64 b2, .slice ad2 t2 cap2]) W (HKS.out _ (List.getElem_mem hjs)) HCL.out (HG2.out.ext h))
          clear hc hg2
          have hxl := xr.lt
          go_wp2_with fail
          have HN0 := Lib.hid (rw_num wr j (by omega))
          have HB2 : Hid (Below wr.heap.size wr ((wr.alloc (.cells #[.int .i64 j] 3)).alloc (.cells #[.slice (some ⟨wr.heap.size, 0, none⟩) 1 1] 25))) := ((Below.refl _ _).alloc (Nat.le_refl _) _).alloc (by simp) _
          generalize (wr.alloc (.cells #[.int .i64 j] 3)).alloc (.cells #[.slice (some ⟨wr.heap.size, 0, none⟩) 1 1] 25) = W2 at *
          refine (CK.out _ HB2.out).mono ?_
          rintro e w3 ⟨⟨u3, rfl, hu3⟩, hb3⟩
          have HN3 := Lib.hid (HN0.out.extI hb3)
          have HB3 := Lib.hid (HB2.out.trans (hb3.mono HB2.out.size))
          have HU3 := Lib.hid hu3
          clear hb3 hu3 CK HN0
          go_wp2_with fail
          refine (rtimes_any [[(j : Int)]] (GT.tps s[j]) 1399680 (by omega) hA1 (fun x hx => by have := HTL.out.2 x hx; have := HCO.out; omega) (by have := HTL.out.1; have := HCL.out; simp; omega) (by simp) (by have := HTL.out.1; have := HCL.out; omega) _ _ _ _ _ HN3.out HU3.out).mono ?_
          rintro e w4 ⟨⟨u4, rfl, hu4⟩, hb4⟩
          have HB4 := Lib.hid (HB3.out.trans (hb4.mono HB3.out.size))
          have hol := HO.out.lt
          have HU4 := Lib.hid (hu4.at IntsS.reads)
          have h34 := hb4.size
          clear hb4 hu4
          go_wp2_with (at_builtin; refine append_rws IntsS.reads (B := anyF (GT.tpsL (s.take j)) 0) (C := mulL [[(j : Int)]] (GT.tps s[j])) (o := ⟨some 52, _, _, _, _, _⟩) rfl _ _ 54 25 rfl Tryd.underlying54 info_ints rfl (HO.out.keep IntsS.reads HB4.out) rfl (HU4.out.keep IntsS.reads (Nat.le_refl _) (fun b hs _ => ⟨⟨by have := HB3.out.size; omega, fun e => by have := hol _ e; have := HB3.out.size; omega⟩, rfl⟩)) (by have h := HBL.out (j + 1); rw [HST.out, List.length_append] at h; omega) (by have := HB4.out.size; omega) ?_; intro o6 w6 ho6 hg6 hat6)
          have hB6 : Below w.heap.size w w6 := (hbr.trans (HB4.out.mono hzr)).grown hg6 (by have := HB4.out.size; omega) (fun x hx => by have := (hol x hx).1; omega)
          have x6 : Blk w6 w.heap.size #[.int .i64 5, .int .i64 a, .int .i64 b, .slice (some ⟨bl, off, none⟩) sn cap] 24 := (hg6.block _ (by have := HB4.out.size; omega) (fun e => by have := (hol _ e.symm).1; omega)).trans (xr.ext HB4.out)
          have HO6 : Hid (OwnRw IntsS 25 w6 W0.heap.size o6 (anyF (GT.tpsL (s.take (j + 1))) 0)) := by show OwnRw _ _ _ _ _ _; rw [HST.out]; exact ho6
          have hg6z : W0.heap.size ≤ w6.heap.size := by have := hg6.size; have := HB4.out.size; omega
          clear ho6 hg6 hat6
          go_wp2_with fail
          exact ⟨⟨j + 1, by omega, by go_num, hB6, hg6z, x6, HO6⟩, by simp [intOf]; omega⟩
        · have hjn : j = s.length := by rw [← HSN.out]; omega
          have p1 : ¬ (j : Int) < (sn : Int) := by omega
          have h := HO.out
          rw [hjn, ← HE.out] at h
          have HR := Lib.hid (h.at IntsS.reads)
          clear h HO hjn
          go_wp2_with fail
          go_ret
          exact ⟨⟨_, rfl, HR.out.keep IntsS.reads (Nat.le_refl _) (fun b hs _ => ⟨by omega, rfl⟩)⟩, hbr⟩
end Go.Proofs.YtbfnlaplhgknaaaDoor
