/- The walk through the document's answer on what is less. -/
import Derived.Test.YtibmnifenfingaaGreatDoorRL1
import Derived.Test.YtibmnifenfingaaGreatDoorRF11
namespace Go.Proofs.YtibmnifenfingaaGreatDoor
set_option maxRecDepth 100000
open Go.RowKit
set_option linter.unusedSimpArgs false
set_option linter.unusedVariables false
theorem IntsAt.take {w : World} {a : Addr} {n cap : Nat} {l : List Int} (h : IntsAt w (.slice (some a) n cap) l) (j : Nat) (hj : j ≤ n) : IntsAt w (.slice (some a) j cap) (l.take j) := by
  refine ⟨fun x hx => h.1 x (List.mem_of_mem_take hx), ?_⟩
  rcases h.2 with ⟨e, _⟩ | ⟨a', cap', e, h1, h2, h3⟩
  · cases e
  · simp only [Value.slice.injEq, Option.some.injEq] at e
    obtain ⟨rfl, hn, rfl⟩ := e
    have hl : (l.take j).length = j := by rw [List.length_take]; omega
    refine .inr ⟨a, cap, by rw [hl], by omega, h2, fun i hi => ?_⟩
    rw [hl] at hi
    rw [h3 i (by omega)]
    simp [List.getD_eq_getElem?_getD, List.getElem?_take, hi]
theorem IntsAt.drop {w : World} {b off n cap : Nat} {l : List Int} (h : IntsAt w (.slice (some ⟨b, off, none⟩) n cap) l) (j : Nat) (hj : j ≤ n) : IntsAt w (.slice (some ⟨b, off + j, none⟩) (n - j) (cap - j)) (l.drop j) := by
  refine ⟨fun x hx => h.1 x (List.mem_of_mem_drop hx), ?_⟩
  rcases h.2 with ⟨e, _⟩ | ⟨a', cap', e, h1, h2, h3⟩
  · cases e
  · simp only [Value.slice.injEq, Option.some.injEq] at e
    obtain ⟨rfl, hn, rfl⟩ := e
    have hl : (l.drop j).length = n - j := by rw [List.length_drop]; omega
    refine .inr ⟨⟨b, off + j, none⟩, cap - j, by rw [hl], by omega, by omega, fun i hi => ?_⟩
    rw [hl] at hi
    have := h3 (j + i) (by omega)
    rw [addr_add] at this ⊢
    rw [show off + j + i = off + (j + i) by omega, this]
    simp [List.getD_eq_getElem?_getD, List.getElem?_drop]
theorem rw_of_blk {w : World} {S : Nat → Prop} {b : Nat} {cs : Array Value} {t : TypeId} {B : List (List Int)} (hb : Blk w b cs t) (hS : S b) (hl : cs.size = B.length) (hm : B.length ≤ 1000) (h : ∀ i (hi : i < B.length), ∃ u, cs[i]? = some u ∧ IntsS w S u B[i]) : RwAt IntsS w S (.slice (some ⟨b, 0, none⟩) B.length B.length) B := by
  refine ⟨some ⟨b, 0, none⟩, B.length, rfl, Nat.le_refl _, by unfold maxLen; omega, (fun e => by cases e), fun _ => ⟨b, 0, rfl, hb.lt, hS, fun i hi => ?_⟩⟩
  obtain ⟨u, hu, hr⟩ := h i hi
  refine ⟨u, ?_, hr⟩
  rw [Nat.zero_add, hb.cell i]
  exact hu
theorem IntsAt.dropG {w : World} {b off n cap : Nat} {l : List Int} (h : IntsAt w (.slice (some ⟨b, off, none⟩) n cap) l) (j : Nat) (hj : j + 1 ≤ n) (hc : n ≤ cap) : IntsAt w (.slice (if cap = j + 1 then some ⟨b, off, none⟩ else some ⟨b, off + (j + 1), none⟩) (n - (j + 1)) (cap - (j + 1))) (l.drop (j + 1)) := by
  by_cases hcj : cap = j + 1
  · rw [if_pos hcj]
    have hd := h.drop (j + 1) hj
    have hn : n - (j + 1) = 0 := by omega
    have hl : (l.drop (j + 1)).length = 0 := by
      obtain ⟨_, _, e, _⟩ := hd.form
      simp only [Value.slice.injEq] at e
      omega
    have hl2 : l.drop (j + 1) = [] := List.length_eq_zero_iff.1 hl
    rw [hl2, hn]
    exact ⟨by simp, .inr ⟨_, cap - (j + 1), rfl, by simp, by unfold maxLen; omega, fun i hi => absurd hi (by simp)⟩⟩
  · rw [if_neg hcj]
    exact h.drop (j + 1) hj
/-- What is tried lies there; what is less is gathered. -/
structure LsI (w W0 : World) (lo hi pt : Nat) (TL : List (List Int)) (gc : Array Value) (B : List (List Int)) (o : Value) (wr : World) : Prop where
  bel : Below w.heap.size w wr
  siz : hi ≤ wr.heap.size
  gen : Blk wr w.heap.size gc 24
  ptl : lo ≤ pt ∧ pt < hi
  rows : ∀ i (h : i < TL.length), ∃ u, wr.cell? ⟨pt, i, none⟩ = some u ∧ IntsS wr (fun x => lo ≤ x ∧ x < hi) u TL[i]
  own : OwnRw IntsS 32 wr W0.heap.size o B
  out : ∀ x, o.ownBlock = some x → x < lo ∨ hi ≤ x
section
variable {w W0 : World} {lo hi pt : Nat} {TL : List (List Int)} {gc : Array Value} {B B' : List (List Int)} {o o' : Value} {wr w' : World}
theorem LsI.ext (h : LsI w W0 lo hi pt TL gc B o wr) (hb : Below wr.heap.size wr w') : LsI w W0 lo hi pt TL gc B o w' := by
  have hz := hb.size
  have hs := h.siz
  have hp := h.ptl
  refine ⟨h.bel.trans (hb.mono h.bel.size), by omega, h.gen.ext hb, h.ptl, fun i hi => ?_, h.own.keep IntsS.reads hb, h.out⟩
  obtain ⟨u, hu, hr⟩ := h.rows i hi
  exact ⟨u, (hb.cell (p := ⟨pt, i, none⟩) (by dsimp only; omega)).trans hu, hr.keepB hb⟩
theorem LsI.grow (h : LsI w W0 lo hi pt TL gc B o wr) (hW0 : w.heap.size < W0.heap.size) (hg : wr.grownBy w' o.ownBlock) (ho : OwnRw IntsS 32 w' W0.heap.size o' B') (hat : o'.ownBlock = o.ownBlock ∨ o'.ownBlock = some wr.heap.size) : LsI w W0 lo hi pt TL gc B' o' w' := by
  have hz := hg.size
  have hs := h.siz
  have hp := h.ptl
  have hlt := h.own.lt
  have hgl := h.gen.lt
  have hblk : ∀ x, lo ≤ x → x < hi → w'.heap[x]? = wr.heap[x]? := fun x h1 h2 => hg.block x (by omega) (fun e => by have := h.out x e.symm; omega)
  refine ⟨h.bel.grown hg h.bel.size (fun k hk => by have := hlt k hk; omega), by omega, (hg.block _ hgl (fun e => by have := hlt _ e.symm; omega)).trans h.gen, h.ptl, fun i hi => ?_, ho, fun x hx => ?_⟩
  · obtain ⟨u, hu, hr⟩ := h.rows i hi
    exact ⟨u, (World.cell?_of_block (a := ⟨pt, i, none⟩) (hblk pt hp.1 hp.2)).trans hu, IntsS.reads.keep hr hz (fun x hx hl => ⟨hx, hblk x hx.1 hx.2⟩)⟩
  · rcases hat with e | e
    · rw [e] at hx; exact h.out x hx
    · rw [e] at hx; have := Option.some.inj hx; omega
end
theorem keep_take (g : GT) (l : List Int) (TL : List (List Int)) (k : Nat) (h : k < TL.length) : keep g l (TL.take (k + 1)) = keep g l (TL.take k) ++ (if PTape.less (mendR g TL[k]) l then [mendR g TL[k]] else []) := by
  rw [List.take_add_one, List.getElem?_eq_getElem h, keep_append]
  congr 1
  rw [show (some TL[k]).toList = [TL[k]] from rfl, keep_cons, keep_nil, List.append_nil]
set_option maxHeartbeats 8000000 in
theorem rless_any (g : GT) (l : List Int) (hp : (playR g l).2 = 0) (gv lv : Value) (w : World) (hg : GenAt w gv g) (hl : IntsAt w lv l) :
    Calls Tryz.prog 45 #[gv, lv] w fun e w' => (∃ u, e = .returned u ∧ RwAt IntsS w' (fun b => w.heap.size ≤ b) u (lessR g l)) ∧ Below w.heap.size w w' := by
  obtain ⟨hc, h01, hlen⟩ := played_fit hp
  have HC := Lib.hid hc
  have H01 := Lib.hid h01
  have HG := Lib.hid hg
  obtain ⟨lad, lcap, rfl, hl1, hl2, _, hlc⟩ := hl.form
  unfold maxLen at hl2
  obtain ⟨ln, hln⟩ : ∃ n, n = l.length := ⟨_, rfl⟩
  rw [← hln]
  rw [← hln] at hl hlc
  have HL := Lib.hid hl
  have HLC := Lib.hid hlc
  have HLN := Lib.hid hln
  have hcapL : ln ≤ lcap := by omega
  have hlen2 : ln ≤ 1399680 := by omega
  obtain ⟨k0, a0, b0, s0, g0, c0, rfl⟩ := hg.shape
  have HR : Hid (lessR g l = lessUp g l ln) := by show _ = _; rw [hln]; rfl
  clear hp hc h01 hg hl hlc hl1 hlen hln
  go_enter Tryz.func45, Tryz.ntmps45
  go_wp2_with fail
  generalize hW : w.alloc (.cells #[.int .i64 k0, .int .i64 a0, .int .i64 b0, .slice g0 s0 c0] 24) = W0
  have hB0 : Below w.heap.size w W0 := by rw [← hW]; repeat (first | with_reducible assumption | with_reducible exact Below.refl _ _ | with_reducible apply Below.drew | (with_reducible refine Below.alloc ?_ (by first | omega | (simp only [zA, zS, zD, zN]; omega) | (dsimp only; omega) | (simp only [zA, zS, zD, zN]; dsimp only; omega)) _) | (with_reducible refine Below.setCell ?_ (by first | omega | (simp only [zA, zS, zD, zN]; omega) | (dsimp only; omega) | (simp only [zA, zS, zD, zN]; dsimp only; omega)) _) | (with_reducible apply below_drewN))
  have x0 : Blk W0 w.heap.size #[.int .i64 k0, .int .i64 a0, .int .i64 b0, .slice g0 s0 c0] 24 := by rw [← hW]; exact Blk.new _ _ _
  have hz0 : W0.heap.size = w.heap.size + 1 := by rw [← hW]; simp
  clear hW
  go_loopw [5, 6] (fun o i wr => ∃ j : Nat, j ≤ ln ∧ i = .int .i64 j ∧ Below w.heap.size w wr ∧ W0.heap.size ≤ wr.heap.size ∧ Blk wr w.heap.size #[.int .i64 k0, .int .i64 a0, .int .i64 b0, .slice g0 s0 c0] 24 ∧ Hid (OwnRw IntsS 32 wr W0.heap.size o (lessUp g l j))) (fun _ i _ => ln - (intOf i).toNat)
  case atStart => exact ⟨0, by omega, rfl, hB0, Nat.le_refl _, x0, OwnRw.nil _ _ _ _⟩
  case round =>
    obtain ⟨j, hj, rfl, hbr, hzr, xr, HO⟩ := hrel
    by_cases hlt : j < ln
    · have p0 : (0 : Int) ≤ (j : Int) := by omega
      have p1 : (j : Int) < (ln : Int) := by omega
      have p2 : (j : Int) ≤ (lcap : Int) := by omega
      have p3 : (j : Int) + 1 ≤ (ln : Int) := by omega
      have p4 : j ≤ lcap := by omega
      have p5 : j + 1 ≤ ln := by omega
      obtain ⟨lb, loff, rfl, hlb, hcc⟩ := HLC.out (by omega)
      go_wp2_with fail
      refine region_mov (S := fun _ => True) (n := 11) (ms := [(true, 1), (true, 2), (true, 3), (true, 5), (true, 6), (true, 7), (true, 8), (false, 0), (false, 4), (false, 9), (false, 10), (false, 11)]) (hm := by kernel_rfl) (hB := by kernel_rfl) (hQ := fun c a d v w h => by cases d <;> exact h) ?_
      have hwj : IntKind.i64.wrap ((j : Int) + 1) = (j : Int) + 1 := IntWalk.i64_in _ ⟨by omega, by omega⟩
      have p6 : (0 : Int) ≤ (j : Int) + 1 := by omega
      iterate 7
        rw [mov_take]
        simp only [List.getElem?_toArray, List.getElem?_cons_succ, List.getElem?_cons_zero]
        refine ⟨?_, .inl ⟨by rfl, ?_⟩, trivial, ?_⟩
        rotate_left
        · rintro w' _
          go_simp
          rfl
        simp only [Act.put, List.setIfInBounds_toArray, List.set_cons_zero, List.set_cons_succ]
      obtain ⟨WJ, hWJ⟩ : ∃ WJ, WJ = wr := ⟨_, rfl⟩
      have hbD : Below wr.heap.size wr wr.drew := (Below.refl _ _).drew
      have HZD : Hid (wr.drew.heap.size = wr.heap.size) := rfl
      generalize wr.drew = WD at *
      have hbw : Below w.heap.size w WD := hbr.trans (hbD.mono hbr.size)
      have IT := Lib.hid ((HL.out.ext hbw).take j (by omega))
      have ID := Lib.hid ((HL.out.ext hbw).dropG j p5 hcapL)
      generalize hIS : Value.slice (if lcap = j + 1 then some ⟨lb, loff, none⟩ else some ⟨lb, loff + (j + 1), none⟩) (ln - (j + 1)) (lcap - (j + 1)) = dv at *
      have hDl : (l.drop (j + 1)).length ≤ 1399680 := by rw [List.length_drop]; have := HLN.out; omega
      have hTl : (l.take j).length ≤ 1399680 := by rw [List.length_take]; have := HLN.out; omega
      clear hIS
      rw [mov_step]
      simp only [List.getElem?_toArray, List.getElem?_cons_succ, List.getElem?_cons_zero]
      go_wp2_with fail
      refine And.intro (fun _ => trivial) ?_
      rw [mov_step]
      simp only [List.getElem?_toArray, List.getElem?_cons_succ, List.getElem?_cons_zero]
      refine append_ints (v := .slice (some ⟨WD.heap.size, 0, none⟩) 0 0) (xs := []) (base := WD.heap.size) (src := .slice (some ⟨lb, loff, none⟩) j lcap) (l := l.take j) rfl _ _ rfl rfl (OwnInts.lit WD WD.heap.size [] (Nat.le_refl _) (by decide)) rfl (IT.out.ext ((Below.refl _ _).alloc (Nat.le_refl _) _)) (by simp only [List.length_nil]; omega) (by simp) ?_
      intro v1 w1 ho1 hg1 _
      have hb1 := grown_lit hg1
      rw [List.nil_append] at ho1
      refine And.intro (fun _ => trivial) ?_
      simp only [Act.put, List.setIfInBounds_toArray, List.set_cons_zero, List.set_cons_succ]
      rw [mov_step]
      simp only [List.getElem?_toArray, List.getElem?_cons_succ, List.getElem?_cons_zero]
      refine append_ints (v := v1) (xs := l.take j) (base := WD.heap.size) (src := dv) (l := l.drop (j + 1)) rfl _ _ rfl rfl ho1 rfl (ID.out.ext hb1) (by omega) (by exact hb1.size) ?_
      intro v2 w2 ho2 hg2 _
      have hb2 := hb1.trans (grown_own ho1 hg2 hb1.size)
      rw [← eraseIdx_take_drop] at ho2
      have h64 : ∀ n ∈ l.eraseIdx j, In64 n := fun n hn => by have := H01.out n (List.mem_of_mem_eraseIdx hn); exact ⟨by omega, by omega⟩
      have hs2 := ho2.s h64
      have hlo2 := World.ownsRow.lt ho2
      obtain ⟨ead, ecap, rfl⟩ : ∃ ad cap, v2 = .slice ad (l.eraseIdx j).length cap := by obtain ⟨_, ad, cap, e, _⟩ := hs2; exact ⟨ad, cap, e⟩
      have HE2 : Hid (IntsS w2 (fun x => wr.heap.size ≤ x ∧ x < w2.heap.size) (.slice ead (l.eraseIdx j).length ecap) (l.eraseIdx j)) := hs2.mono (fun x hx _ => by have := hlo2 x hx; have h2 := HZD.out; omega)
      obtain ⟨en, hen⟩ : ∃ n, n = (l.eraseIdx j).length := ⟨_, rfl⟩
      rw [← hen] at HE2 ⊢
      clear hen ho1 ho2 hg1 hg2 hs2 hlo2 hb1 h64 IT ID
      refine And.intro (fun _ => trivial) ?_
      simp only [Act.put, List.setIfInBounds_toArray, List.set_cons_zero, List.set_cons_succ]
      rw [mov_step]
      simp only [List.getElem?_toArray, List.getElem?_cons_succ, List.getElem?_cons_zero]
      go_wp2_with fail
      refine And.intro (fun _ => trivial) ?_
      rw [mov_step]
      simp only [List.getElem?_toArray, List.getElem?_cons_succ, List.getElem?_cons_zero]
      go_wp2_with fail
      refine And.intro (fun h => absurd h (by omega)) ?_
      rw [wpMov]
      have hbT : Below wr.heap.size wr w2 := hbD.trans (hb2.mono hbD.size)
      obtain ⟨pt1, hpt1⟩ : ∃ p, p = w2.heap.size := ⟨_, rfl⟩
      rw [← hpt1]
      generalize hWT : w2.alloc (.cells #[.slice ead en ecap] 32) = WT
      have hbT1 : Below wr.heap.size wr WT := by rw [← hWT]; exact hbT.alloc hbT.size _
      have xt : Blk WT pt1 #[.slice ead en ecap] 32 := by rw [← hWT, hpt1]; exact Blk.new _ _ _
      have HE3 : Hid (IntsS WT (fun x => wr.heap.size ≤ x ∧ x < WT.heap.size) (.slice ead en ecap) (l.eraseIdx j)) := IntsS.reads.keep HE2.out (by rw [← hWT]; simp) (fun x hx hl => ⟨by rw [← hWT]; simp; omega, by rw [← hWT]; exact Below.heap_alloc w2 _ x hl⟩)
      have hpl : wr.heap.size ≤ pt1 := by have := hbT.size; omega
      clear hWT hpt1 HE2 hb2 hbT hbD HZD hbw hWJ
      have hzT := hbT1.size
      have hbTw : Below w.heap.size w WT := hbr.trans (hbT1.mono hbr.size)
      have cj := (hbTw.cell (p := ⟨lb, loff + j, none⟩) hlb).trans (hcc j hlt)
      have hx1 := H01.out (l.getD j 0) (by
        have hjl : j < l.length := by have := HLN.out; omega
        have e : l.getD j 0 = l[j] := by simp [List.getD_eq_getElem?_getD, hjl]
        rw [e]; exact List.getElem_mem hjl)
      obtain ⟨hx2, hx3⟩ := hx1
      have hjl : j < l.length := by have := HLN.out; omega
      have hll : l.length ≤ 17592186044416 := by have := HLN.out; omega
      have HTR : Hid (tries l j = (if 0 < l.getD j 0 then [l.set j 0, l.set j (l.getD j 0 / 2), l.set j (l.getD j 0 - 1)] else []) ++ [l.eraseIdx j]) := rfl
      have CW := Lib.hid (fun y (hy : In64 y) W (h : Below WT.heap.size WT W) => rwith_any l (.slice (some ⟨lb, loff, none⟩) ln lcap) j y W hjl hll hy (HL.out.ext (hbTw.trans (h.mono hbTw.size))))
      have HW0g : Hid (w.heap.size < W0.heap.size) := by show _ < _; omega
      have HW0lo : Hid (W0.heap.size ≤ wr.heap.size) := hzr
      have HWW : Hid (∀ x, wr.heap.size ≤ x → W0.heap.size ≤ x) := fun x hx => by omega
      have hoj := HO.out.lt
      clear hcc hjl hll
      generalize l.getD j 0 = x at *
      by_cases hx : 0 < x
      · have hx0 : x ≠ 0 := by omega
        have hdv : IntKind.i64.wrap (x.tdiv 2) = x / 2 := by rw [Int.tdiv_eq_ediv_of_nonneg hx2]; exact IntWalk.i64_in _ ⟨by omega, by omega⟩
        have hw1 : IntKind.i64.wrap (x - 1) = x - 1 := IntWalk.i64_in _ ⟨by omega, by omega⟩
        have q0 : decide ((0 : Int) < x) = true := decide_eq_true hx
        have ct := xt.cell 0
        simp only [List.getElem?_toArray, List.getElem?_cons_succ, List.getElem?_cons_zero] at ct
        have hxt := xt.lt
        go_wp2_with fail
        refine region_mov (S := fun w' => w'.cell? ⟨lb, loff + j, none⟩ = some (.int .i64 x) ∧ w'.cell? ⟨pt1, 0, none⟩ = some (.slice ead en ecap)) (n := 23) (ms := [(true, 0), (true, 1), (true, 3), (true, 4), (true, 5), (true, 6), (true, 7), (true, 8), (true, 9), (true, 11), (true, 12), (true, 13), (true, 14), (true, 15), (true, 16), (true, 17), (true, 19), (true, 20), (true, 21), (false, 2), (false, 10), (false, 18), (false, 22), (false, 23)]) (hm := by kernel_rfl) (hB := by kernel_rfl) (hQ := fun c a d v w h => by cases d <;> exact h) ?_
        have hbl : lb < WT.heap.size := by have := hbTw.size; omega
        have HS : Hid (∀ W', Below WT.heap.size WT W' → (fun w' => w'.cell? ⟨lb, loff + j, none⟩ = some (.int .i64 x) ∧ w'.cell? ⟨pt1, 0, none⟩ = some (.slice ead en ecap)) W') := fun W' h => ⟨(h.cell (p := ⟨lb, _, none⟩) hbl).trans cj, (h.cell (p := ⟨pt1, _, none⟩) hxt).trans ct⟩
        have HWD : Hid (Below WT.heap.size WT WT.drew) := (Below.refl _ _).drew
        have HS0 := Lib.hid (HS.out _ HWD.out)
        iterate 19
          rw [mov_take]
          simp only [List.getElem?_toArray, List.getElem?_cons_succ, List.getElem?_cons_zero]
          refine ⟨?_, .inl ⟨by rfl, ?_⟩, HS0.out, ?_⟩
          rotate_left
          · rintro w' ⟨s0', s1⟩
            go_simp
            rfl
          simp only [Act.put, List.setIfInBounds_toArray, List.set_cons_zero, List.set_cons_succ]
        have HZD : Hid (WT.drew.heap.size = WT.heap.size) := rfl
        clear HS0 hwj
        generalize WT.drew = WD at *
        rw [mov_step]
        simp only [List.getElem?_toArray, List.getElem?_cons_succ, List.getElem?_cons_zero]
        go_wp2_with fail
        refine (CW.out 0 ⟨by omega, by omega⟩ WD HWD.out).mono ?_
        rintro e V1 ⟨⟨y1, rfl, hy1⟩, hb1⟩
        have hbV1 : Below WT.heap.size WT V1 := HWD.out.trans (hb1.mono HWD.out.size)
        obtain ⟨ad1, cap1, rfl⟩ : ∃ ad cap, y1 = .slice ad (l.set j 0).length cap := by obtain ⟨_, ad, cap, e, _⟩ := hy1; exact ⟨ad, cap, e⟩
        obtain ⟨n1, hn1⟩ : ∃ n, n = (l.set j 0).length := ⟨_, rfl⟩
        rw [← hn1] at hy1 ⊢
        have HY1 : Hid (IntsS V1 (fun z => WT.heap.size ≤ z) (.slice ad1 n1 cap1) (l.set j 0)) := hy1.mono (fun z hz _ => by have := HZD.out; omega)
        clear hy1 hb1 hn1
        go_wp2_with fail
        refine And.intro (fun _ => HS.out V1 hbV1) ?_
        rw [mov_step]
        simp only [List.getElem?_toArray, List.getElem?_cons_succ, List.getElem?_cons_zero]
        go_wp2_with fail
        refine (CW.out (x / 2) ⟨by omega, by omega⟩ V1 hbV1).mono ?_
        rintro e V2 ⟨⟨y2, rfl, hy2⟩, hb2⟩
        have hbV2 : Below WT.heap.size WT V2 := hbV1.trans (hb2.mono hbV1.size)
        have HY1 := Lib.hid (HY1.out.keepB hb2)
        obtain ⟨ad2, cap2, rfl⟩ : ∃ ad cap, y2 = .slice ad (l.set j (x / 2)).length cap := by obtain ⟨_, ad, cap, e, _⟩ := hy2; exact ⟨ad, cap, e⟩
        obtain ⟨n2, hn2⟩ : ∃ n, n = (l.set j (x / 2)).length := ⟨_, rfl⟩
        rw [← hn2] at hy2 ⊢
        have HY2 : Hid (IntsS V2 (fun z => WT.heap.size ≤ z) (.slice ad2 n2 cap2) (l.set j (x / 2))) := hy2.mono (fun z hz _ => by have := hbV1.size; omega)
        clear hy2 hb2 hn2
        go_wp2_with fail
        refine And.intro (fun _ => HS.out V2 hbV2) ?_
        rw [mov_step]
        simp only [List.getElem?_toArray, List.getElem?_cons_succ, List.getElem?_cons_zero]
        go_wp2_with fail
        refine (CW.out (x - 1) ⟨by omega, by omega⟩ V2 hbV2).mono ?_
        rintro e V3 ⟨⟨y3, rfl, hy3⟩, hb3⟩
        have hbV3 : Below WT.heap.size WT V3 := hbV2.trans (hb3.mono hbV2.size)
        have HY1 := Lib.hid (HY1.out.keepB hb3)
        have HY2 := Lib.hid (HY2.out.keepB hb3)
        obtain ⟨ad3, cap3, rfl⟩ : ∃ ad cap, y3 = .slice ad (l.set j (x - 1)).length cap := by obtain ⟨_, ad, cap, e, _⟩ := hy3; exact ⟨ad, cap, e⟩
        obtain ⟨n3, hn3⟩ : ∃ n, n = (l.set j (x - 1)).length := ⟨_, rfl⟩
        rw [← hn3] at hy3 ⊢
        have HY3 : Hid (IntsS V3 (fun z => WT.heap.size ≤ z) (.slice ad3 n3 cap3) (l.set j (x - 1))) := hy3.mono (fun z hz _ => by have := hbV2.size; omega)
        clear hy3 hb3 hn3
        go_wp2_with fail
        refine And.intro (fun _ => HS.out V3 hbV3) ?_
        rw [mov_step]
        simp only [List.getElem?_toArray, List.getElem?_cons_succ, List.getElem?_cons_zero]
        go_wp2_with fail
        refine And.intro (fun _ => HS.out _ (hbV3.alloc hbV3.size _)) ?_
        rw [mov_step]
        simp only [List.getElem?_toArray, List.getElem?_cons_succ, List.getElem?_cons_zero]
        go_wp2_with fail
        refine And.intro (fun h => absurd h (by omega)) ?_
        rw [wpMov]
        obtain ⟨pt2, hpt2⟩ : ∃ p, p = V3.heap.size := ⟨_, rfl⟩
        rw [← hpt2]
        generalize hWU : V3.alloc (.cells #[.slice ad1 n1 cap1, .slice ad2 n2 cap2, .slice ad3 n3 cap3, .slice ead en ecap] 32) = WU
        have hbU : Below WT.heap.size WT WU := by rw [← hWU]; exact hbV3.alloc hbV3.size _
        have xu : Blk WU pt2 #[.slice ad1 n1 cap1, .slice ad2 n2 cap2, .slice ad3 n3 cap3, .slice ead en ecap] 32 := by rw [← hWU, hpt2]; exact Blk.new _ _ _
        have hup : Hid (∀ {v : Value} {m : List Int} {Z : Nat → Prop}, IntsS V3 Z v m → IntsS WU (fun z => Z z ∧ z < WU.heap.size) v m) := fun h => IntsS.reads.keep h (by rw [← hWU]; simp) (fun z hz hl => ⟨⟨hz, by rw [← hWU]; simp; omega⟩, by rw [← hWU]; exact Below.heap_alloc V3 _ z hl⟩)
        have HZ1 := Lib.hid (hup.out HY1.out)
        have HZ2 := Lib.hid (hup.out HY2.out)
        have HZ3 := Lib.hid (hup.out HY3.out)
        have HZ4 := Lib.hid (hup.out (HE3.out.keepB hbV3))
        have hpu : WT.heap.size ≤ pt2 := by have := hbV3.size; omega
        clear hWU hpt2 hup HY1 HY2 HY3 HS HWD HZD CW hdv hw1 q0 ct
        obtain ⟨TL, hTL⟩ : ∃ TL, TL = tries l j := ⟨_, rfl⟩
        have hT1 : TL = [l.set j 0, l.set j (x / 2), l.set j (x - 1), l.eraseIdx j] := by rw [hTL, HTR.out, if_pos hx]; rfl
        obtain ⟨lo, hlo⟩ : ∃ n, n = wr.heap.size := ⟨_, rfl⟩
        obtain ⟨hi, hhi⟩ : ∃ n, n = WU.heap.size := ⟨_, rfl⟩
        have hbU2 : Below wr.heap.size wr WU := hbT1.trans (hbU.mono hbT1.size)
        have hxu := xu.lt
        have hlw : ∀ z, WT.heap.size ≤ z ∧ z < WU.heap.size → lo ≤ z ∧ z < hi := fun z hz => by omega
        have HLS : Hid (LsI w W0 lo hi pt2 TL #[.int .i64 k0, .int .i64 a0, .int .i64 b0, .slice g0 s0 c0] (lessUp g l j) _ WU) := ⟨hbr.trans (hbU2.mono hbr.size), by omega, (xr.ext hbU2), ⟨by omega, by omega⟩, fun i hi' => by
          subst hT1
          match i, hi' with
          | 0, _ => exact ⟨_, xu.cell 0, HZ1.out.mono (fun z hz _ => hlw z hz)⟩
          | 1, _ => exact ⟨_, xu.cell 1, HZ2.out.mono (fun z hz _ => hlw z hz)⟩
          | 2, _ => exact ⟨_, xu.cell 2, HZ3.out.mono (fun z hz _ => hlw z hz)⟩
          | 3, _ => exact ⟨_, xu.cell 3, HZ4.out.mono (fun z hz _ => ⟨by omega, by omega⟩)⟩
          | (n + 4), h => exact absurd (show n + 4 < 4 from h) (by omega)
          , HO.out.keep IntsS.reads hbU2, fun y hy => by have := hoj y hy; omega⟩
        obtain ⟨tn, htn⟩ : ∃ n : Nat, n = 4 := ⟨4, rfl⟩
        have htn4 : tn ≤ 4 := by omega
        have HTN : Hid (TL.length = tn) := by show _ = _; rw [hT1, htn]; rfl
        have hrw : (Value.slice (some ⟨pt2, 0, none⟩) 4 4) = .slice (some ⟨pt2, 0, none⟩) tn tn := by rw [htn]
        have HTL : Hid (lessUp g l j ++ keep g l TL = lessUp g l (j + 1)) := by show _ = _; rw [hTL]; rfl
        have HWW : Hid (∀ y, lo ≤ y → W0.heap.size ≤ y) := fun y hy => by omega
        have HW0lo : Hid (W0.heap.size ≤ lo) := by show _ ≤ _; omega
        rw [hrw]
        clear hrw htn
        go_wp2_with fail
        clear hlo hhi hTL hT1 HE3 xt xu HTR HO hbr xr hbTw hbT1 hoj cj HZ1 HZ2 HZ3 HZ4 hbU hbU2 hlw hbV1 hbV2 hbV3
        go_loopw [5, 8] (fun o i wr => ∃ k : Nat, k ≤ tn ∧ i = .int .i64 k ∧ Hid (LsI w W0 lo hi pt2 TL #[.int .i64 k0, .int .i64 a0, .int .i64 b0, .slice g0 s0 c0] (lessUp g l j ++ keep g l (TL.take k)) o wr)) (fun _ i _ => tn - (intOf i).toNat)
        case atStart => exact ⟨0, by omega, rfl, by show LsI _ _ _ _ _ _ _ _ _ _; rw [List.take_zero, keep_nil, List.append_nil]; exact HLS.out⟩
        case round =>
          obtain ⟨k, hk, rfl, HI⟩ := hrel
          by_cases hkt : k < tn
          · have r0 : (0 : Int) ≤ (k : Int) := by omega
            have r1 : (k : Int) < (tn : Int) := by omega
            have hkl : k < TL.length := by have := HTN.out; omega
            obtain ⟨u, hu, hur⟩ := HI.out.rows k hkl
            have hgen := HI.out.gen
            have hptl := HI.out.ptl
            have hsz := HI.out.siz
            have f0 := hgen.cell 0
            have f1 := hgen.cell 1
            have f2 := hgen.cell 2
            have f3 := hgen.cell 3
            simp only [List.getElem?_toArray, List.getElem?_cons_succ, List.getElem?_cons_zero] at f0 f1 f2 f3
            have CM : Hid (∀ W, Below wr.heap.size wr W → Calls Tryz.prog 65 #[.agg #[.int .i64 k0, .int .i64 a0, .int .i64 b0, .slice g0 s0 c0], u] W fun e w' => (∃ mv, e = .returned mv ∧ IntsS w' (fun b => W.heap.size ≤ b) mv (mendR g TL[k])) ∧ Below W.heap.size W w') := fun W h => rmend_any g HC.out TL[k] _ u W (HG.out.ext (HI.out.bel.trans (h.mono HI.out.bel.size))) (hur.keepB h).at
            have HKT := Lib.hid (keep_take g l TL k hkl)
            generalize hM : mendR g TL[k] = M at *
            clear hM hur
            go_wp2_with fail
            refine region_mov (S := fun w' => w'.cell? ⟨w.heap.size, 0, none⟩ = some (.int .i64 k0) ∧ w'.cell? ⟨w.heap.size, 1, none⟩ = some (.int .i64 a0) ∧ w'.cell? ⟨w.heap.size, 2, none⟩ = some (.int .i64 b0) ∧ w'.cell? ⟨w.heap.size, 3, none⟩ = some (.slice g0 s0 c0) ∧ w'.cell? ⟨pt2, k, none⟩ = some u) (n := 6) (ms := [(true, 0), (true, 1), (true, 2), (true, 3), (true, 4), (false, 5), (false, 6)]) (hm := by kernel_rfl) (hB := by kernel_rfl) (hQ := fun c a d v w h => by cases d <;> exact h) ?_
            have hptr : pt2 < wr.heap.size := by omega
            have HS : Hid (∀ W', Below wr.heap.size wr W' → (fun w' => w'.cell? ⟨w.heap.size, 0, none⟩ = some (.int .i64 k0) ∧ w'.cell? ⟨w.heap.size, 1, none⟩ = some (.int .i64 a0) ∧ w'.cell? ⟨w.heap.size, 2, none⟩ = some (.int .i64 b0) ∧ w'.cell? ⟨w.heap.size, 3, none⟩ = some (.slice g0 s0 c0) ∧ w'.cell? ⟨pt2, k, none⟩ = some u) W') := fun W' h => ⟨(hgen.ext h).cell 0, (hgen.ext h).cell 1, (hgen.ext h).cell 2, (hgen.ext h).cell 3, (h.cell (p := ⟨pt2, _, none⟩) hptr).trans hu⟩
            have HWD : Hid (Below wr.heap.size wr wr.drew) := (Below.refl _ _).drew
            have HS0 := Lib.hid (HS.out _ HWD.out)
            iterate 5
              rw [mov_take]
              simp only [List.getElem?_toArray, List.getElem?_cons_succ, List.getElem?_cons_zero]
              refine ⟨?_, .inl ⟨by rfl, ?_⟩, HS0.out, ?_⟩
              rotate_left
              · rintro w' ⟨s0', s1, s2, s3, s4⟩
                go_simp
                rfl
              simp only [Act.put, List.setIfInBounds_toArray, List.set_cons_zero, List.set_cons_succ]
            have HZD : Hid (wr.drew.heap.size = wr.heap.size) := rfl
            clear HS0 f0 f1 f2 f3 hu
            generalize wr.drew = WD at *
            rw [mov_step]
            simp only [List.getElem?_toArray, List.getElem?_cons_succ, List.getElem?_cons_zero]
            go_wp2_with fail
            refine (CM.out WD HWD.out).mono ?_
            rintro e V ⟨⟨mv, rfl, hmv⟩, hbv⟩
            have hbV : Below wr.heap.size wr V := HWD.out.trans (hbv.mono HWD.out.size)
            have HS2 := Lib.hid (HS.out V hbV)
            have hM64 := hmv.1
            obtain ⟨mad, mcap, rfl⟩ : ∃ ad cap, mv = .slice ad M.length cap := by obtain ⟨_, ad, cap, e, _⟩ := hmv; exact ⟨ad, cap, e⟩
            have HMV : Hid (IntsS V (fun x => wr.heap.size ≤ x) (.slice mad M.length mcap) M) := hmv.mono (fun x hx _ => by have := HZD.out; omega)
            have HIV := Lib.hid (HI.out.ext hbV)
            clear HS hmv CM hM64
            go_wp2_with fail
            refine And.intro (fun _ => HS2.out) ?_
            rw [mov_step]
            simp only [List.getElem?_toArray, List.getElem?_cons_succ, List.getElem?_cons_zero]
            go_wp2_with fail
            refine And.intro (fun h => absurd h (by omega)) ?_
            rw [wpMov]
            clear HS2
            have CS := Lib.hid (rshorter_any (.slice mad M.length mcap) (.slice (some ⟨lb, loff, none⟩) ln lcap) M l V HMV.out.at (HL.out.ext HIV.out.bel))
            go_wp2_with fail
            refine CS.out.mono ?_
            rintro e V2 ⟨rfl, hb2⟩
            have HI2 := Lib.hid (HIV.out.ext hb2)
            have HM2 := Lib.hid (HMV.out.keepB hb2)
            have hz2 := hb2.size
            have hzV := hbV.size
            clear HIV HMV CS
            cases hlm : PTape.less M l with
            | false =>
              have HKE : Hid (keep g l (TL.take (k + 1)) = keep g l (TL.take k)) := by
                show _ = _
                have := HKT.out
                rw [hlm] at this
                simpa using this
              clear hlm
              go_wp2_with fail
              exact ⟨⟨k + 1, by omega, by go_num, by show LsI _ _ _ _ _ _ _ _ _ _; rw [HKE.out]; exact HI2.out⟩, by simp [intOf]; omega⟩
            | true =>
              have HKE : Hid (keep g l (TL.take (k + 1)) = keep g l (TL.take k) ++ [M]) := by
                show _ = _
                have := HKT.out
                rw [hlm] at this
                simpa using this
              have hBl : (lessUp g l j ++ keep g l (TL.take k)).length ≤ 1000000000 := by
                have h1 := lessUp_len g l j
                have h2 := keep_len g l (TL.take k)
                have h3 : (TL.take k).length ≤ 4 := by rw [List.length_take]; omega
                rw [List.length_append]
                omega
              clear hlm
              have hV2w : W0.heap.size ≤ V2.heap.size := by have h1 := HW0lo.out; have h2 := HI2.out.siz; have h3 := HI2.out.ptl; omega
              obtain ⟨oad, ocap, rfl, _⟩ := HI2.out.own.form
              obtain ⟨BB, hBB⟩ : ∃ BB, BB = lessUp g l j ++ keep g l (TL.take k) := ⟨_, rfl⟩
              rw [← hBB] at hBl
              have HBB := Lib.hid hBB
              have HOW : Hid (∀ x, Value.ownBlock (.slice oad BB.length ocap) = some x → x < wr.heap.size) := fun x e => (HI.out.own.lt x (by rw [hBB] at e; exact e)).2
              have HI3 : Hid (LsI w W0 lo hi pt2 TL #[.int .i64 k0, .int .i64 a0, .int .i64 b0, .slice g0 s0 c0] BB (.slice oad BB.length ocap) V2) := by show LsI _ _ _ _ _ _ _ _ _ _; rw [hBB]; exact HI2.out
              rw [← hBB]
              clear HI2 hBB
              go_wp2_with (at_builtin; refine append_rw IntsS.reads (v := .slice oad BB.length ocap) (B := BB) (o := ⟨some 73, _, _, _, _, _⟩) (y := M) rfl _ _ 87 32 rfl Tryz.underlying87 info_ints rfl (HI3.out.own.keep IntsS.reads ((Below.refl _ _).alloc (Nat.le_refl _) _)) rfl (Blk.new _ _ _) (IntsS.reads.keep HM2.out (by simp) (fun x hx hl => ⟨⟨HWW.out x (by have h2 := HI.out.siz; have h3 := HI.out.ptl; omega), fun e => by have h1 := HOW.out x e; omega⟩, Below.heap_alloc V2 _ x hl⟩)) hBl (by simp; omega) ?_; intro o6 w6 ho6 hg6 hat6)
              have HI6 := Lib.hid ((HI3.out.ext ((Below.refl _ _).alloc (Nat.le_refl _) _)).grow HW0g.out hg6 ho6 hat6)
              clear ho6 hg6 hat6
              go_wp2_with fail
              exact ⟨⟨k + 1, by omega, by go_num, by show LsI _ _ _ _ _ _ _ _ _ _; rw [HKE.out, ← List.append_assoc, ← HBB.out]; exact HI6.out⟩, by simp [intOf]; omega⟩
          · have r1 : ¬ (k : Int) < (tn : Int) := by omega
            have h := HI.out
            rw [List.take_of_length_le (by have := HTN.out; omega)] at h
            rw [HTL.out] at h
            have HIE := Lib.hid h
            clear h
            clear HI
            go_wp2_with fail
            exact ⟨⟨j + 1, by omega, by go_num, HIE.out.bel, by have h1 := HW0lo.out; have h2 := HIE.out.siz; have h3 := HIE.out.ptl; omega, HIE.out.gen, HIE.out.own⟩, by simp [intOf]; omega⟩
      · have q0 : decide ((0 : Int) < x) = false := decide_eq_false hx
        obtain ⟨TL, hTL⟩ : ∃ TL, TL = tries l j := ⟨_, rfl⟩
        have hT1 : TL = [l.eraseIdx j] := by rw [hTL, HTR.out, if_neg hx]; rfl
        obtain ⟨lo, hlo⟩ : ∃ n, n = wr.heap.size := ⟨_, rfl⟩
        obtain ⟨hi, hhi⟩ : ∃ n, n = WT.heap.size := ⟨_, rfl⟩
        have HLS : Hid (LsI w W0 lo hi pt1 TL #[.int .i64 k0, .int .i64 a0, .int .i64 b0, .slice g0 s0 c0] (lessUp g l j) _ WT) := ⟨hbTw, by omega, (xr.ext hbT1), ⟨by omega, by have := xt.lt; omega⟩, fun i hi' => by
          subst hT1
          have hi0 : i = 0 := by simpa using hi'
          subst hi0
          refine ⟨_, xt.cell 0, ?_⟩
          rw [hlo, hhi]
          exact HE3.out, HO.out.keep IntsS.reads hbT1, fun y hy => by have := hoj y hy; omega⟩
        obtain ⟨tn, htn⟩ : ∃ n : Nat, n = 1 := ⟨1, rfl⟩
        have htn4 : tn ≤ 4 := by omega
        have HTN : Hid (TL.length = tn) := by show _ = _; rw [hT1, htn]; rfl
        have hrw : (Value.slice (some ⟨pt1, 0, none⟩) 1 1) = .slice (some ⟨pt1, 0, none⟩) tn tn := by rw [htn]
        have HTL : Hid (lessUp g l j ++ keep g l TL = lessUp g l (j + 1)) := by show _ = _; rw [hTL]; rfl
        have HWW : Hid (∀ y, lo ≤ y → W0.heap.size ≤ y) := fun y hy => by omega
        have HW0lo : Hid (W0.heap.size ≤ lo) := by show _ ≤ _; omega
        rw [hrw]
        clear hrw htn
        go_wp2_with fail
        clear hlo hhi hTL hT1 HE3 xt HTR CW hoj cj HO hbr xr hbTw hbT1 q0
        go_loopw [5, 8] (fun o i wr => ∃ k : Nat, k ≤ tn ∧ i = .int .i64 k ∧ Hid (LsI w W0 lo hi pt1 TL #[.int .i64 k0, .int .i64 a0, .int .i64 b0, .slice g0 s0 c0] (lessUp g l j ++ keep g l (TL.take k)) o wr)) (fun _ i _ => tn - (intOf i).toNat)
        case atStart => exact ⟨0, by omega, rfl, by show LsI _ _ _ _ _ _ _ _ _ _; rw [List.take_zero, keep_nil, List.append_nil]; exact HLS.out⟩
        case round =>
          obtain ⟨k, hk, rfl, HI⟩ := hrel
          by_cases hkt : k < tn
          · have r0 : (0 : Int) ≤ (k : Int) := by omega
            have r1 : (k : Int) < (tn : Int) := by omega
            have hkl : k < TL.length := by have := HTN.out; omega
            obtain ⟨u, hu, hur⟩ := HI.out.rows k hkl
            have hgen := HI.out.gen
            have hptl := HI.out.ptl
            have hsz := HI.out.siz
            have f0 := hgen.cell 0
            have f1 := hgen.cell 1
            have f2 := hgen.cell 2
            have f3 := hgen.cell 3
            simp only [List.getElem?_toArray, List.getElem?_cons_succ, List.getElem?_cons_zero] at f0 f1 f2 f3
            have CM : Hid (∀ W, Below wr.heap.size wr W → Calls Tryz.prog 65 #[.agg #[.int .i64 k0, .int .i64 a0, .int .i64 b0, .slice g0 s0 c0], u] W fun e w' => (∃ mv, e = .returned mv ∧ IntsS w' (fun b => W.heap.size ≤ b) mv (mendR g TL[k])) ∧ Below W.heap.size W w') := fun W h => rmend_any g HC.out TL[k] _ u W (HG.out.ext (HI.out.bel.trans (h.mono HI.out.bel.size))) (hur.keepB h).at
            have HKT := Lib.hid (keep_take g l TL k hkl)
            generalize hM : mendR g TL[k] = M at *
            clear hM hur
            go_wp2_with fail
            refine region_mov (S := fun w' => w'.cell? ⟨w.heap.size, 0, none⟩ = some (.int .i64 k0) ∧ w'.cell? ⟨w.heap.size, 1, none⟩ = some (.int .i64 a0) ∧ w'.cell? ⟨w.heap.size, 2, none⟩ = some (.int .i64 b0) ∧ w'.cell? ⟨w.heap.size, 3, none⟩ = some (.slice g0 s0 c0) ∧ w'.cell? ⟨pt1, k, none⟩ = some u) (n := 6) (ms := [(true, 0), (true, 1), (true, 2), (true, 3), (true, 4), (false, 5), (false, 6)]) (hm := by kernel_rfl) (hB := by kernel_rfl) (hQ := fun c a d v w h => by cases d <;> exact h) ?_
            have hptr : pt1 < wr.heap.size := by omega
            have HS : Hid (∀ W', Below wr.heap.size wr W' → (fun w' => w'.cell? ⟨w.heap.size, 0, none⟩ = some (.int .i64 k0) ∧ w'.cell? ⟨w.heap.size, 1, none⟩ = some (.int .i64 a0) ∧ w'.cell? ⟨w.heap.size, 2, none⟩ = some (.int .i64 b0) ∧ w'.cell? ⟨w.heap.size, 3, none⟩ = some (.slice g0 s0 c0) ∧ w'.cell? ⟨pt1, k, none⟩ = some u) W') := fun W' h => ⟨(hgen.ext h).cell 0, (hgen.ext h).cell 1, (hgen.ext h).cell 2, (hgen.ext h).cell 3, (h.cell (p := ⟨pt1, _, none⟩) hptr).trans hu⟩
            have HWD : Hid (Below wr.heap.size wr wr.drew) := (Below.refl _ _).drew
            have HS0 := Lib.hid (HS.out _ HWD.out)
            iterate 5
              rw [mov_take]
              simp only [List.getElem?_toArray, List.getElem?_cons_succ, List.getElem?_cons_zero]
              refine ⟨?_, .inl ⟨by rfl, ?_⟩, HS0.out, ?_⟩
              rotate_left
              · rintro w' ⟨s0', s1, s2, s3, s4⟩
                go_simp
                rfl
              simp only [Act.put, List.setIfInBounds_toArray, List.set_cons_zero, List.set_cons_succ]
            have HZD : Hid (wr.drew.heap.size = wr.heap.size) := rfl
            clear HS0 f0 f1 f2 f3 hu
            generalize wr.drew = WD at *
            rw [mov_step]
            simp only [List.getElem?_toArray, List.getElem?_cons_succ, List.getElem?_cons_zero]
            go_wp2_with fail
            refine (CM.out WD HWD.out).mono ?_
            rintro e V ⟨⟨mv, rfl, hmv⟩, hbv⟩
            have hbV : Below wr.heap.size wr V := HWD.out.trans (hbv.mono HWD.out.size)
            have HS2 := Lib.hid (HS.out V hbV)
            have hM64 := hmv.1
            obtain ⟨mad, mcap, rfl⟩ : ∃ ad cap, mv = .slice ad M.length cap := by obtain ⟨_, ad, cap, e, _⟩ := hmv; exact ⟨ad, cap, e⟩
            have HMV : Hid (IntsS V (fun x => wr.heap.size ≤ x) (.slice mad M.length mcap) M) := hmv.mono (fun x hx _ => by have := HZD.out; omega)
            have HIV := Lib.hid (HI.out.ext hbV)
            clear HS hmv CM hM64
            go_wp2_with fail
            refine And.intro (fun _ => HS2.out) ?_
            rw [mov_step]
            simp only [List.getElem?_toArray, List.getElem?_cons_succ, List.getElem?_cons_zero]
            go_wp2_with fail
            refine And.intro (fun h => absurd h (by omega)) ?_
            rw [wpMov]
            clear HS2
            have CS := Lib.hid (rshorter_any (.slice mad M.length mcap) (.slice (some ⟨lb, loff, none⟩) ln lcap) M l V HMV.out.at (HL.out.ext HIV.out.bel))
            go_wp2_with fail
            refine CS.out.mono ?_
            rintro e V2 ⟨rfl, hb2⟩
            have HI2 := Lib.hid (HIV.out.ext hb2)
            have HM2 := Lib.hid (HMV.out.keepB hb2)
            have hz2 := hb2.size
            have hzV := hbV.size
            clear HIV HMV CS
            cases hlm : PTape.less M l with
            | false =>
              have HKE : Hid (keep g l (TL.take (k + 1)) = keep g l (TL.take k)) := by
                show _ = _
                have := HKT.out
                rw [hlm] at this
                simpa using this
              clear hlm
              go_wp2_with fail
              exact ⟨⟨k + 1, by omega, by go_num, by show LsI _ _ _ _ _ _ _ _ _ _; rw [HKE.out]; exact HI2.out⟩, by simp [intOf]; omega⟩
            | true =>
              have HKE : Hid (keep g l (TL.take (k + 1)) = keep g l (TL.take k) ++ [M]) := by
                show _ = _
                have := HKT.out
                rw [hlm] at this
                simpa using this
              have hBl : (lessUp g l j ++ keep g l (TL.take k)).length ≤ 1000000000 := by
                have h1 := lessUp_len g l j
                have h2 := keep_len g l (TL.take k)
                have h3 : (TL.take k).length ≤ 4 := by rw [List.length_take]; omega
                rw [List.length_append]
                omega
              clear hlm
              have hV2w : W0.heap.size ≤ V2.heap.size := by have h1 := HW0lo.out; have h2 := HI2.out.siz; have h3 := HI2.out.ptl; omega
              obtain ⟨oad, ocap, rfl, _⟩ := HI2.out.own.form
              obtain ⟨BB, hBB⟩ : ∃ BB, BB = lessUp g l j ++ keep g l (TL.take k) := ⟨_, rfl⟩
              rw [← hBB] at hBl
              have HBB := Lib.hid hBB
              have HOW : Hid (∀ x, Value.ownBlock (.slice oad BB.length ocap) = some x → x < wr.heap.size) := fun x e => (HI.out.own.lt x (by rw [hBB] at e; exact e)).2
              have HI3 : Hid (LsI w W0 lo hi pt1 TL #[.int .i64 k0, .int .i64 a0, .int .i64 b0, .slice g0 s0 c0] BB (.slice oad BB.length ocap) V2) := by show LsI _ _ _ _ _ _ _ _ _ _; rw [hBB]; exact HI2.out
              rw [← hBB]
              clear HI2 hBB
              go_wp2_with (at_builtin; refine append_rw IntsS.reads (v := .slice oad BB.length ocap) (B := BB) (o := ⟨some 73, _, _, _, _, _⟩) (y := M) rfl _ _ 87 32 rfl Tryz.underlying87 info_ints rfl (HI3.out.own.keep IntsS.reads ((Below.refl _ _).alloc (Nat.le_refl _) _)) rfl (Blk.new _ _ _) (IntsS.reads.keep HM2.out (by simp) (fun x hx hl => ⟨⟨HWW.out x (by have h2 := HI.out.siz; have h3 := HI.out.ptl; omega), fun e => by have h1 := HOW.out x e; omega⟩, Below.heap_alloc V2 _ x hl⟩)) hBl (by simp; omega) ?_; intro o6 w6 ho6 hg6 hat6)
              have HI6 := Lib.hid ((HI3.out.ext ((Below.refl _ _).alloc (Nat.le_refl _) _)).grow HW0g.out hg6 ho6 hat6)
              clear ho6 hg6 hat6
              go_wp2_with fail
              exact ⟨⟨k + 1, by omega, by go_num, by show LsI _ _ _ _ _ _ _ _ _ _; rw [HKE.out, ← List.append_assoc, ← HBB.out]; exact HI6.out⟩, by simp [intOf]; omega⟩
          · have r1 : ¬ (k : Int) < (tn : Int) := by omega
            have h := HI.out
            rw [List.take_of_length_le (by have := HTN.out; omega)] at h
            rw [HTL.out] at h
            have HIE := Lib.hid h
            clear h
            clear HI
            go_wp2_with fail
            exact ⟨⟨j + 1, by omega, by go_num, HIE.out.bel, by have h1 := HW0lo.out; have h2 := HIE.out.siz; have h3 := HIE.out.ptl; omega, HIE.out.gen, HIE.out.own⟩, by simp [intOf]; omega⟩
    · obtain rfl : j = ln := by omega
      have p1 : ¬ (j : Int) < (j : Int) := by omega
      have HU := Lib.hid (HO.out.at IntsS.reads)
      go_wp2_with fail
      go_ret
      refine ⟨⟨_, rfl, ?_⟩, hbr⟩
      rw [HR.out]
      exact HU.out.keep IntsS.reads (Nat.le_refl _) (fun x hx _ => ⟨by omega, rfl⟩)
end Go.Proofs.YtibmnifenfingaaGreatDoor
