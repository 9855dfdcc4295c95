/- The walk through Rank. -/
import Derived.Test.YtjobgkcoblpbcaaRank3
namespace Go.Proofs.Ytjobgkcoblpbcaa
open Go.RowKit
set_option linter.unusedSimpArgs false
set_option linter.unusedVariables false
namespace GT
theorem NthR.inv_nil {i : Int} {t : List Int} (h : NthR [] i t) : i = 0 ∧ t = [] := by cases h; exact ⟨rfl, rfl⟩
theorem NthR.inv_just {a b : Int} {s rest : List GT} {i : Int} {t : List Int} (h : NthR (.mk 1 a b s :: rest) i t) : NthR rest i t := by
  cases h with
  | just h => exact h
  | choose hc _ _ => simp [Chs, kind] at hc
theorem NthR.inv_both {a b : Int} {s rest : List GT} {i : Int} {t : List Int} (h : NthR (.mk 3 a b s :: rest) i t) : NthR (s ++ rest) i t := by
  cases h with
  | both h => exact h
  | choose hc _ _ => simp [Chs, kind] at hc
theorem NthR.inv_choose {g : GT} {rest : List GT} {i : Int} {t : List Int} (hc : Chs g) (h : NthR (g :: rest) i t) : ∃ (j : Nat) (i' : Int) (t' : List Int) (hj : j < (brs g).length), t = (j : Int) :: t' ∧ i = prodL rest * sumP ((brs g).take j) + i' ∧ NthR ((brs g)[j] ++ rest) i' t' := by
  cases h with
  | just h => simp [Chs, kind] at hc
  | both h => simp [Chs, kind] at hc
  | choose hc hj h => exact ⟨_, _, _, hj, rfl, rfl, h⟩
end GT
/-- What holds at the head of Rank's loop. -/
structure RankI (g : GT) (i0 : Int) (tape : List Int) (w : World) (k : Nat) (l : List GT) (n i : Int) (p : Nat) (td : Value) (wr : World) : Prop where
  wt : GT.wtL l = k
  wb : GT.wtL l ≤ GT.wt g
  ok : GT.OkL l
  pr : GT.prodL l ≤ 1048576
  n0 : 0 ≤ n
  num : n + i = i0
  at' : p ≤ tape.length
  nth : GT.NthR l i (tape.drop p)
  td : GsV w wr (fun _ => True) td l
  below : Below w.heap.size w wr
theorem RankI.both {g : GT} {i0 : Int} {tape : List Int} {w : World} {k p : Nat} {a b : Int} {s rest : List GT} {n i : Int} {td v : Value} {wr w' : World} (h : RankI g i0 tape w k (.mk 3 a b s :: rest) n i p td wr) (hB : Below wr.heap.size wr w') (hv : GsV w w' (fun _ => True) v (s ++ rest)) :
    RankI g i0 tape w (GT.wtL (s ++ rest)) (s ++ rest) n i p v w' ∧ GT.wtL (s ++ rest) < k := by
  obtain ⟨h1, h2⟩ := h.ok.cons
  obtain ⟨h3, h4⟩ := GT.ok_both h1
  have hp : GT.prodL (.mk 3 a b s :: rest) = GT.prodL (s ++ rest) := by rw [GT.prodL_append]; simp only [GT.prodL, h4]
  have e2 := h.pr
  have e4 := h.wt
  have e4b := h.wb
  rw [hp] at e2
  have hwt : GT.wtL (.mk 3 a b s :: rest) = 1 + GT.wtL (s ++ rest) := by rw [GT.wtL_append]; simp [GT.wtL, GT.wt]; omega
  rw [hwt] at e4 e4b
  exact ⟨⟨rfl, by omega, h3.append h2, e2, h.n0, h.num, h.at', h.nth.inv_both, hv, h.below.trans (hB.mono h.below.size)⟩, by omega⟩
theorem RankI.just {g : GT} {i0 : Int} {tape : List Int} {w : World} {k p : Nat} {a b : Int} {s rest : List GT} {n i : Int} {td v : Value} {wr w' : World} (h : RankI g i0 tape w k (.mk 1 a b s :: rest) n i p td wr) (hB : Below wr.heap.size wr w') (hv : GsV w w' (fun _ => True) v rest) :
    RankI g i0 tape w (GT.wtL rest) rest n i p v w' ∧ GT.wtL rest < k := by
  obtain ⟨h1, h2⟩ := h.ok.cons
  have hp : GT.prodL (.mk 1 a b s :: rest) = GT.prodL rest := by simp [GT.prodL, GT.count]
  have e2 := h.pr
  have e4 := h.wt
  have e4b := h.wb
  rw [hp] at e2
  have hwt : GT.wtL (.mk 1 a b s :: rest) = 1 + GT.wtL rest := by simp [GT.wtL, GT.wt]
  rw [hwt] at e4 e4b
  exact ⟨⟨rfl, by omega, h2, e2, h.n0, h.num, h.at', h.nth.inv_just, hv, h.below.trans (hB.mono h.below.size)⟩, by omega⟩
theorem RankI.choose {g : GT} {i0 : Int} {tape : List Int} {w : World} {k p : Nat} {g1 : GT} {rest : List GT} {n i i' : Int} {td v : Value} {wr w' : World} (h : RankI g i0 tape w k (g1 :: rest) n i p td wr) (hc : GT.Chs g1) {j : Nat} (hj : j < (GT.brs g1).length) {t' : List Int}
    (ht : tape.drop p = (j : Int) :: t') (hi : i = GT.prodL rest * GT.sumP ((GT.brs g1).take j) + i') (hn : GT.NthR ((GT.brs g1)[j] ++ rest) i' t') (hB : Below wr.heap.size wr w') (hv : GsV w w' (fun _ => True) v ((GT.brs g1)[j] ++ rest)) :
    RankI g i0 tape w (GT.wtL ((GT.brs g1)[j] ++ rest)) ((GT.brs g1)[j] ++ rest) (n + GT.prodL rest * GT.sumP ((GT.brs g1).take j)) i' (p + 1) v w' ∧ GT.wtL ((GT.brs g1)[j] ++ rest) < k := by
  obtain ⟨h2, h3⟩ := h.ok.cons
  obtain ⟨h4, h5⟩ := GT.ok_brs h2 hc
  have hjk := h5 _ (List.getElem_mem hj)
  have hbd0 := hn.bd (hjk.append h3)
  have hbd := GT.branch_bd h2 hc h3 hj hbd0.1 hbd0.2
  have hprod : GT.prodL ((GT.brs g1)[j] ++ rest) ≤ GT.prodL (g1 :: rest) := by
    have h6 := GT.branch_bd h2 hc h3 hj (i := GT.prodL ((GT.brs g1)[j] ++ rest) - 1) (by have := (hjk.append h3).pos; omega) (by omega)
    omega
  have e2 := h.pr
  have e3 := h.n0
  have e4 := h.wt
  have e4b := h.wb
  have e5 := h.num
  have hw := GT.wt_brs (GT.check_ok h2.1) hc hj
  simp only [GT.wtL] at e4 e4b
  have hlt : p < tape.length := by
    rcases Nat.lt_or_ge p tape.length with e | e
    · exact e
    · rw [List.drop_eq_nil_of_le e] at ht; cases ht
  have hd : tape.drop (p + 1) = t' := by
    rw [List.drop_eq_getElem_cons hlt] at ht
    exact (List.cons.inj ht).2
  refine ⟨⟨rfl, by rw [GT.wtL_append]; omega, hjk.append h3, by omega, by omega, by omega, by omega, by rw [hd]; exact hn, hv, h.below.trans (hB.mono h.below.size)⟩, by rw [GT.wtL_append]; omega⟩
set_option maxRecDepth 100000 in
set_option maxHeartbeats 4000000 in
theorem rank_any (g : GT) (hk : GT.Ok g) (i0 : Int) (tape : List Int) (hn0 : GT.NthR [g] i0 tape) (v tv : Value) (w : World) (hg : GenAt w v g) (ht : IntsAt w tv tape) :
    Calls Try.prog 30 #[v, tv] w fun e w' => e = .returned (.tuple #[.int .i64 i0, .nilIface]) ∧ Below w.heap.size w w' := by
  obtain ⟨k, a, b, t, ad, cap, rfl⟩ := hg.shape
  have C1 := Lib.hid (fun W (h : Below w.heap.size w W) => gen_count_any g (.agg #[.int .i64 k, .int .i64 a, .int .i64 b, .slice ad t cap]) W (hg.ext h))
  rw [hk.countR, errV_zero] at C1
  have C2 := Lib.hid (fun W (h : Below w.heap.size w W) => replay_any g tape (.agg #[.int .i64 k, .int .i64 a, .int .i64 b, .slice ad t cap]) tv W (hg.ext h) (ht.ext h))
  rw [play_of_nth hk.1 hn0, errV_zero] at C2
  obtain ⟨tad, tcap, rfl, htl, htm, _, htc⟩ := ht.form
  have HTC := Lib.hid htc
  unfold maxLen at htm
  have HG := Lib.hid hg
  have HK := Lib.hid hk
  have HN0 := Lib.hid hn0
  have hi0 := hn0.bd (fun x hx => by rw [List.mem_singleton.1 hx]; exact hk)
  have hi1 := hi0.1
  have hi2 : i0 < 1048576 := by have h1 := hi0.2; have h2 := hk.2; simp only [GT.prodL] at h1; omega
  generalize GT.count g = cn at *
  clear hg hk hn0 ht htc hi0
  go_enter Try.func30, Try.ntmps30
  go_wp2_with fail
  refine (C1.out _ (by repeat (first | with_reducible assumption | with_reducible exact Below.refl _ _ | with_reducible apply Below.drew | (with_reducible refine Below.alloc ?_ (by first | omega | (simp only [World.size_alloc, size_setCell, size_drew, size_drewN]; omega) | (dsimp only; omega) | (simp only [World.size_alloc, size_setCell, size_drew, size_drewN]; dsimp only; omega)) _) | (with_reducible refine Below.setCell ?_ (by first | omega | (simp only [World.size_alloc, size_setCell, size_drew, size_drewN]; omega) | (dsimp only; omega) | (simp only [World.size_alloc, size_setCell, size_drew, size_drewN]; dsimp only; omega)) _)))).mono ?_
  rintro e w1 ⟨rfl, hb1⟩
  have hB1 : Below w.heap.size w w1 := Below.trans (by repeat (first | with_reducible assumption | with_reducible exact Below.refl _ _ | with_reducible apply Below.drew | (with_reducible refine Below.alloc ?_ (by first | omega | (simp only [World.size_alloc, size_setCell, size_drew, size_drewN]; omega) | (dsimp only; omega) | (simp only [World.size_alloc, size_setCell, size_drew, size_drewN]; dsimp only; omega)) _) | (with_reducible refine Below.setCell ?_ (by first | omega | (simp only [World.size_alloc, size_setCell, size_drew, size_drewN]; omega) | (dsimp only; omega) | (simp only [World.size_alloc, size_setCell, size_drew, size_drewN]; dsimp only; omega)) _))) (hb1.mono (by first | omega | (simp only [World.size_alloc, size_setCell, size_drew, size_drewN]; omega) | (dsimp only; omega) | (simp only [World.size_alloc, size_setCell, size_drew, size_drewN]; dsimp only; omega)))
  have x1 := (Blk.new w #[.int .i64 k, .int .i64 a, .int .i64 b, .slice ad t cap] 43).ext hb1
  have f0 := x1.cell 0
  have f1 := x1.cell 1
  have f2 := x1.cell 2
  have f3 := x1.cell 3
  have fl := x1.lt
  simp only [List.getElem?_toArray, List.getElem?_cons_succ, List.getElem?_cons_zero] at f0 f1 f2 f3
  have hz1 := hB1.size
  clear hb1
  go_wp2_with fail
  refine (C2.out _ (by repeat (first | with_reducible assumption | with_reducible exact Below.refl _ _ | with_reducible apply Below.drew | (with_reducible refine Below.alloc ?_ (by first | omega | (simp only [World.size_alloc, size_setCell, size_drew, size_drewN]; omega) | (dsimp only; omega) | (simp only [World.size_alloc, size_setCell, size_drew, size_drewN]; dsimp only; omega)) _) | (with_reducible refine Below.setCell ?_ (by first | omega | (simp only [World.size_alloc, size_setCell, size_drew, size_drewN]; omega) | (dsimp only; omega) | (simp only [World.size_alloc, size_setCell, size_drew, size_drewN]; dsimp only; omega)) _)))).mono ?_
  rintro e w2 ⟨⟨rv, rfl, hrv⟩, hb2⟩
  obtain ⟨rl, rn, rk, rad, rcap, rfl⟩ := hrv.shape
  have hB2 : Below w.heap.size w w2 := hB1.trans (hb2.mono (by omega))
  have x2 := x1.ext hb2
  clear f0 f1 f2 f3 fl hb2 hrv
  have f0 := x2.cell 0
  have f1 := x2.cell 1
  have f2 := x2.cell 2
  have f3 := x2.cell 3
  have fl := x2.lt
  simp only [List.getElem?_toArray, List.getElem?_cons_succ, List.getElem?_cons_zero] at f0 f1 f2 f3
  have hz2 := hB2.size
  have y2 := x2.alloc (.cells #[.bool rl, .int .i64 rn, .slice rad rk rcap] 48)
  have g0 := y2.cell 0
  have g1 := y2.cell 1
  have g2 := y2.cell 2
  have g3 := y2.cell 3
  simp only [List.getElem?_toArray, List.getElem?_cons_succ, List.getElem?_cons_zero] at g0 g1 g2 g3
  go_wp2_with fail
  have x3 := Blk.new (w2.alloc (.cells #[.bool rl, .int .i64 rn, .slice rad rk rcap] 48)) #[.int .i64 k, .int .i64 a, .int .i64 b, .slice ad t cap] 43
  have hI : Hid (RankI g i0 tape w (GT.wtL [g]) [g] 0 i0 0 (.slice (some ⟨w2.heap.size + 1, 0, none⟩) 1 1) ((w2.alloc (.cells #[.bool rl, .int .i64 rn, .slice rad rk rcap] 48)).alloc (.cells #[.int .i64 k, .int .i64 a, .int .i64 b, .slice ad t cap] 43))) := by
    simp only [World.size_alloc] at x3
    refine ⟨rfl, by simp [GT.wtL], fun x hx => by rw [List.mem_singleton.1 hx]; exact HK.out, by simp only [GT.prodL]; have := HK.out.2; omega, by omega, by omega, by omega, HN0.out, gsv_new x3 trivial HG.out, by repeat (first | with_reducible assumption | with_reducible exact Below.refl _ _ | with_reducible apply Below.drew | (with_reducible refine Below.alloc ?_ (by first | omega | (simp only [World.size_alloc, size_setCell, size_drew, size_drewN]; omega) | (dsimp only; omega) | (simp only [World.size_alloc, size_setCell, size_drew, size_drewN]; dsimp only; omega)) _) | (with_reducible refine Below.setCell ?_ (by first | omega | (simp only [World.size_alloc, size_setCell, size_drew, size_drewN]; omega) | (dsimp only; omega) | (simp only [World.size_alloc, size_setCell, size_drew, size_drewN]; dsimp only; omega)) _))⟩
  have hB3 : Below w.heap.size w ((w2.alloc (.cells #[.bool rl, .int .i64 rn, .slice rad rk rcap] 48)).alloc (.cells #[.int .i64 k, .int .i64 a, .int .i64 b, .slice ad t cap] 43)) := by repeat (first | with_reducible assumption | with_reducible exact Below.refl _ _ | with_reducible apply Below.drew | (with_reducible refine Below.alloc ?_ (by first | omega | (simp only [World.size_alloc, size_setCell, size_drew, size_drewN]; omega) | (dsimp only; omega) | (simp only [World.size_alloc, size_setCell, size_drew, size_drewN]; dsimp only; omega)) _) | (with_reducible refine Below.setCell ?_ (by first | omega | (simp only [World.size_alloc, size_setCell, size_drew, size_drewN]; omega) | (dsimp only; omega) | (simp only [World.size_alloc, size_setCell, size_drew, size_drewN]; dsimp only; omega)) _))
  clear f0 f1 f2 f3 fl g0 g1 g2 g3 x1 x2 y2 x3 hz1 hB1 hB2 hz2 C1 C2
  generalize (w2.alloc (.cells #[.bool rl, .int .i64 rn, .slice rad rk rcap] 48)).alloc (.cells #[.int .i64 k, .int .i64 a, .int .i64 b, .slice ad t cap] 43) = W at *
  generalize w2.heap.size = z2 at *
  go_loopg [10, 11, 12] (GT.wtL [g]) (fun k n' p' td wr => ∃ l n i p, n' = .int .i64 n ∧ p' = .int .i64 ((p : Nat) : Int) ∧ RankI g i0 tape w k l n i p td wr)
  case atStart => exact ⟨_, _, _, 0, rfl, rfl, hI.out⟩
  case round =>
    obtain ⟨l, n, i, p, rfl, rfl, hN⟩ := hrel
    obtain ⟨wo, rfl⟩ : ∃ wo : World, wo = wr := ⟨_, rfl⟩
    clear hI hB3
    have HN := Lib.hid hN
    obtain ⟨ad9, cap9, rfl, hl9, hm9, hn9, hg9⟩ := hN.td
    have hbr := hN.below
    have hzr := hbr.size
    unfold maxLen at hm9
    cases l with
    | nil =>
      have hn : n = i0 := by have h1 := hN.num; have h2 := hN.nth.inv_nil.1; omega
      clear hN
      subst hn
      go_wp2_with fail
      go_ret2
      exact ⟨rfl, hbr⟩
    | cons g1 rest =>
      obtain ⟨bl, off, rfl, hlt1, hs1, hc9⟩ := hg9.at' (by simp)
      obtain ⟨k2, a2, b2, t2, ad2, cap2, c0, c1, c2, c3, hg2⟩ := hc9 0 (by simp)
      simp only [Nat.zero_mul, Nat.add_zero, List.getElem_cons_zero] at c0 c1 c2 c3 hg2
      clear hc9 hN
      have HG9 := Lib.hid hg9
      clear hg9
      have q0 : (0 : Int) < ((g1 :: rest).length : Int) := by simp
      have q1 : ((g1 :: rest).length : Int) = (rest.length : Int) + 1 := by simp
      have hl10 : rest.length + 1 ≤ cap9 := hl9
      go_wp2_with fail
      go_region
      have hrv : ∃ adr, (if cap9 = 1 then some (⟨bl, off, none⟩ : Addr) else some ⟨bl, off + 4, none⟩) = some adr ∧ GsAt w wo (fun _ => True) (some adr) rest := by
        by_cases hc1 : cap9 = 1
        · have : rest = [] := List.length_eq_zero_iff.1 (by omega)
          subst this
          exact ⟨⟨bl, off, none⟩, by rw [if_pos hc1], GsAt.nil _ _ _ _⟩
        · exact ⟨⟨bl, off + 4, none⟩, by rw [if_neg hc1], HG9.out.tail⟩
      obtain ⟨adr, hadr, hgr⟩ := hrv
      rw [hadr]
      have hB3 : Below wo.heap.size wo (wo.alloc (.cells #[.int .i64 k2, .int .i64 a2, .int .i64 b2, .slice ad2 t2 cap2] 43)).drew := by repeat (first | with_reducible assumption | with_reducible exact Below.refl _ _ | with_reducible apply Below.drew | (with_reducible refine Below.alloc ?_ (by first | omega | (simp only [World.size_alloc, size_setCell, size_drew, size_drewN]; omega) | (dsimp only; omega) | (simp only [World.size_alloc, size_setCell, size_drew, size_drewN]; dsimp only; omega)) _) | (with_reducible refine Below.setCell ?_ (by first | omega | (simp only [World.size_alloc, size_setCell, size_drew, size_drewN]; omega) | (dsimp only; omega) | (simp only [World.size_alloc, size_setCell, size_drew, size_drewN]; dsimp only; omega)) _))
      have x3 : Blk (wo.alloc (.cells #[.int .i64 k2, .int .i64 a2, .int .i64 b2, .slice ad2 t2 cap2] 43)).drew wo.heap.size #[.int .i64 k2, .int .i64 a2, .int .i64 b2, .slice ad2 t2 cap2] 43 := (Blk.new _ _ _).drew
      have hz3 : (wo.alloc (.cells #[.int .i64 k2, .int .i64 a2, .int .i64 b2, .slice ad2 t2 cap2] 43)).drew.heap.size = wo.heap.size + 1 := by simp [size_drew]
      have HGR : Hid (GsV w wo (fun _ => True) (.slice (some adr) rest.length (cap9 - 1)) rest) := ⟨some adr, cap9 - 1, rfl, by omega, by unfold maxLen; omega, (fun e => by cases e), hgr⟩
      have HGN := Lib.hid hg2
      clear hgr hadr q0 q1 c0 c1 c2 c3 hg2 hs1 hlt1 HG9 hn9
      generalize (wo.alloc (.cells #[.int .i64 k2, .int .i64 a2, .int .i64 b2, .slice ad2 t2 cap2] 43)).drew = W3 at *
      have d0 := x3.cell 0
      have d3 := x3.cell 3
      simp only [List.getElem?_toArray, List.getElem?_cons_succ, List.getElem?_cons_zero] at d0 d3

      have hlen : rest.length ≤ 1399680 := by
        have h1 := HN.out.wb
        have h2 := GT.wt_ok HK.out.1
        have h3 := GT.wtL_len (g1 :: rest)
        simp only [List.length_cons] at h3
        omega
      obtain ⟨k3, a3, b3, s3, ad3, cap3, hmk, hv3, _, _, _, hl3, hm3, hs3⟩ := HGN.out.form
      simp only [Value.agg.injEq] at hv3
      have e0 := congrArg (fun z : Array Value => z[0]?) hv3
      have e1 := congrArg (fun z : Array Value => z[1]?) hv3
      have e2 := congrArg (fun z : Array Value => z[2]?) hv3
      have e3 := congrArg (fun z : Array Value => z[3]?) hv3
      simp at e0 e1 e2 e3
      obtain ⟨rfl, rfl, rfl⟩ := e3
      subst e0 e1 e2
      clear hv3
      subst hmk
      have hok := HN.out.ok.cons.1
      by_cases hc : GT.Chs (.mk k2 a2 b2 s3)
      · have hne : (k2 == 3) = false := by
          simp only [GT.Chs, GT.kind] at hc
          simp; omega
        have HC := Lib.hid hc
        have hpr := HN.out.pr
        have hokr := Lib.hid (HN.out.ok.cons.2)
        have hprr : GT.prodL rest ≤ 1048576 := by
          have h1 := hok.pos
          have h2 := hokr.out.pos
          have := Int.mul_le_mul_of_nonneg_right h1 (show 0 ≤ GT.prodL rest by omega)
          simp only [GT.prodL] at hpr
          omega
        have CP := Lib.hid (fun W (h : Below wo.heap.size wo W) => product_any rest hokr.out hprr _ _ w W (hbr.trans (h.mono hzr)) (HGR.out.keepB h))
        have CB := Lib.hid (fun W (h : Below wo.heap.size wo W) => branches_any (.mk k2 a2 b2 s3) hok hc _ w W (hbr.trans (h.mono hzr)) HGN.out)
        have HOK := Lib.hid hok
        obtain ⟨j, i', t', hj, htd, hi, hn'⟩ := HN.out.nth.inv_choose hc
        have hplt : p < tape.length := by
          rcases Nat.lt_or_ge p tape.length with e | e
          · exact e
          · rw [List.drop_eq_nil_of_le e] at htd; cases htd
        have htj : tape.getD p 0 = j := by
          rw [List.drop_eq_getElem_cons hplt] at htd
          simp [List.getD_eq_getElem?_getD, List.getElem?_eq_getElem hplt, (List.cons.inj htd).1]
        obtain ⟨tbl, toff, rfl, htb, htc⟩ := HTC.out (by omega)
        have hcp := htc p hplt
        rw [htj] at hcp
        have hwtb : tbl < wo.heap.size := by omega
        have hcpo := (hbr.cell (p := ⟨tbl, toff + p, none⟩) htb).trans hcp
        clear hcp htc
        have hbl := GT.brs_len hok.1 hc
        have hbl2 := hbl.2
        have HX := Lib.hid (And.intro htd (And.intro hi (And.intro hn' htj)))
        clear hc hpr hprr hok htd hi hn' htj hbl
        obtain ⟨Bn, hBn⟩ : ∃ Bn, Bn = (GT.brs (.mk k2 a2 b2 s3)).length := ⟨_, rfl⟩
        have hjB : j < Bn := by omega
        rw [← hBn] at hbl2
        have HBN := Lib.hid hBn
        clear hBn
        obtain ⟨pr, hpre⟩ : ∃ pr, pr = GT.prodL rest := ⟨_, rfl⟩
        rw [← hpre] at CP
        have HPE := Lib.hid hpre
        clear hpre
        have x3g := x3.cell 1
        have x3h := x3.cell 2
        simp only [List.getElem?_toArray, List.getElem?_cons_succ, List.getElem?_cons_zero] at x3g x3h
        go_wp2_with fail
        refine (CB.out _ (by exact hB3)).mono ?_
        rintro e w4 ⟨⟨u, rfl, hnn, hbrs⟩, hb4⟩
        have hB4 : Below wo.heap.size wo w4 := hB3.trans (hb4.mono (by omega))
        obtain ⟨uad, ucap, rfl, hul, hum, hun, huc⟩ := hbrs
        obtain ⟨ubl, uoff, rfl, hub1, hub2, huu⟩ := huc (by rw [← HBN.out]; omega)
        have hq := fun (w : World) (n c : Nat) => Lib.run_eql_slice_nil (P := Try.prog) w 81 41 (some ⟨ubl, uoff, none⟩) n c 0 0 Try.underlying81
        rw [← HBN.out] at hul
        rw [← HBN.out]
        unfold maxLen at hum
        have HUU := Lib.hid huu
        have hz3 := hB3.size
        have hz4 := hB4.size
        have hz43 := hb4.size
        clear huc huu hnn d0 d3 x3g x3h hb4 x3 CB hun
        go_wp2_with fail
        refine (CP.out _ hB4).mono ?_
        rintro e w5 ⟨rfl, hb5⟩
        have hB5 : Below wo.heap.size wo w5 := hB4.trans (hb5.mono hB4.size)
        have hcp5 := (hB5.cell (p := ⟨tbl, toff + p, none⟩) hwtb).trans hcpo
        have hz5 := hb5.size
        clear CP hq
        have pj0 : (0 : Int) ≤ (j : Int) := by omega
        have pj1 : (p : Int) < (tape.length : Int) := by omega
        have pj2 : (j : Int) ≤ (Bn : Int) := by omega
        have pj3 : (0 : Int) ≤ (p : Int) := by omega
        go_wp2_with fail
        have HI0 := Lib.hid HN.out.num
        have hin0 := HN.out.n0
        have hnnB : 0 ≤ i' := by
          have h5 := (GT.ok_brs HOK.out HC.out).2 _ (List.getElem_mem hj)
          exact (HX.out.2.2.1.bd (h5.append hokr.out)).1
        have hsB : pr * GT.sumP ((GT.brs (.mk k2 a2 b2 s3)).take j) ≤ i := by have h1 := HX.out.2.1; rw [← HPE.out] at h1; omega
        have HSB := Lib.hid hsB
        clear hsB
        go_loopw [10, 69] (fun q r w6 => ∃ (m : Nat) (n' : Int), m ≤ j ∧ r = .int .i64 m ∧ q = .int .i64 n' ∧ 0 ≤ n' ∧ n' ≤ 1048576 ∧ Hid (n' = n + pr * GT.sumP ((GT.brs (.mk k2 a2 b2 s3)).take m)) ∧ Below w5.heap.size w5 w6) (fun _ r _ => j - (intOf r).toNat)
        case atStart =>
          have hi1' := HI0.out
          have : 0 ≤ i := by have h2 := HSB.out; have h1 := GT.sumP_take_nonneg (GT.brs (.mk k2 a2 b2 s3)) (fun l hl => ((GT.ok_brs HOK.out HC.out).2 l hl).pos) j; have h3 := hokr.out.pos; rw [← HPE.out] at h3; have := Int.mul_nonneg (show 0 ≤ pr by omega) h1; omega
          exact ⟨0, n, by omega, rfl, rfl, hin0, by omega, (show n = n + pr * GT.sumP ((GT.brs (.mk k2 a2 b2 s3)).take 0) by simp [GT.sumP]), Below.refl _ _⟩
        case round =>
          obtain ⟨m, n', hm, rfl, rfl, hn'0, hn'1, HNN, hb6⟩ := hrel
          have hz6 := hb6.size
          have hB6 : Below wo.heap.size wo wr := hB5.trans (hb6.mono hB5.size)
          by_cases hlt : m < j
          · have hl : (m : Int) < (j : Int) := by omega
            have hp0 : (0 : Int) ≤ (m : Int) := by omega
            have hmB : m < (GT.brs (.mk k2 a2 b2 s3)).length := by rw [← HBN.out]; omega
            obtain ⟨uv, huv, huR⟩ := HUU.out m hmB
            have huv6 := (hb6.cell (p := ⟨ubl, uoff + m, none⟩) (by simpa using Nat.lt_of_lt_of_le hub1 hz5)).trans ((hb5.cell (p := ⟨ubl, uoff + m, none⟩) hub1).trans huv)
            have huR6 := Lib.hid ((huR.keepB hb5).keepB (hb6.mono (Nat.le_refl _)))
            obtain ⟨va, vn, vc, rfl⟩ : ∃ a n c, uv = .slice a n c := by obtain ⟨a, c, e, _⟩ := huR; exact ⟨a, _, c, e⟩
            have hbk := (GT.ok_brs HOK.out HC.out).2 _ (List.getElem_mem hmB)
            have hposl : ∀ l ∈ GT.brs (.mk k2 a2 b2 s3), 1 ≤ GT.prodL l := fun l hl => ((GT.ok_brs HOK.out HC.out).2 l hl).pos
            have hp1 := hbk.pos
            have hpr1 : 1 ≤ pr := by rw [HPE.out]; exact hokr.out.pos
            have HST := Lib.hid (GT.sumP_take_succ (GT.brs (.mk k2 a2 b2 s3)) m hmB)
            have hsum : n' + pr * GT.prodL (GT.brs (.mk k2 a2 b2 s3))[m] ≤ 1048576 := by
              have h1 := HNN.out
              have h2 := Int.mul_le_mul_of_nonneg_left (GT.sumP_take_le (GT.brs (.mk k2 a2 b2 s3)) hposl (m + 1) j (by omega)) (show 0 ≤ pr by omega)
              rw [HST.out, Int.mul_add] at h2
              have h3 := HSB.out
              have h4 := HI0.out
              omega
            have hpp : 0 ≤ pr * GT.prodL (GT.brs (.mk k2 a2 b2 s3))[m] := Int.mul_nonneg (by omega) (by omega)
            have hpb : GT.prodL (GT.brs (.mk k2 a2 b2 s3))[m] ≤ 1048576 := by
              have := Int.mul_le_mul_of_nonneg_right hpr1 (show 0 ≤ GT.prodL (GT.brs (.mk k2 a2 b2 s3))[m] by omega)
              omega
            have CQ := Lib.hid (fun W (h : Below wr.heap.size wr W) => product_any _ hbk hpb _ _ w W (hbr.trans (hB6.mono hzr |>.trans (h.mono (by omega)))) (huR6.out.keepB h))
            clear hpb huR huv hbk hposl hpr1
            obtain ⟨pb, hpb⟩ : ∃ pb, pb = GT.prodL (GT.brs (.mk k2 a2 b2 s3))[m] := ⟨_, rfl⟩
            rw [← hpb] at CQ HST hp1 hpp hsum
            clear hpb
            have hwr : IntKind.i64.wrap (pr * pb) = pr * pb := IntWalk.i64_in _ (by omega)
            obtain ⟨pm, hpm⟩ : ∃ pm, pr * pb = pm := ⟨_, rfl⟩
            have hwr2 : IntKind.i64.wrap (pr * pb) = pm := hwr.trans hpm
            rw [hpm] at hpp hsum
            have HPM := Lib.hid hpm
            have HWR := Lib.hid hwr2
            clear hpm hwr hwr2
            go_wp2_with fail
            refine (CQ.out _ (by repeat (first | with_reducible assumption | with_reducible exact Below.refl _ _ | with_reducible apply Below.drew | (with_reducible refine Below.alloc ?_ (by first | omega | (simp only [World.size_alloc, size_setCell, size_drew, size_drewN]; omega) | (dsimp only; omega) | (simp only [World.size_alloc, size_setCell, size_drew, size_drewN]; dsimp only; omega)) _) | (with_reducible refine Below.setCell ?_ (by first | omega | (simp only [World.size_alloc, size_setCell, size_drew, size_drewN]; omega) | (dsimp only; omega) | (simp only [World.size_alloc, size_setCell, size_drew, size_drewN]; dsimp only; omega)) _)))).mono ?_
            rintro e w7 ⟨rfl, hb7⟩
            have hwr := HWR.out
            go_wp2_with fail
            clear hwr
            have hB7 : Below w5.heap.size w5 w7 := hb6.trans (hb7.mono hz6)
            refine ⟨⟨m + 1, n' + pm, by omega, by go_num, rfl, by omega, by omega, ?_, hB7⟩, by simp [intOf]; omega⟩
            have h1 := HNN.out
            show n' + pm = n + pr * GT.sumP ((GT.brs (.mk k2 a2 b2 s3)).take (m + 1))
            rw [HST.out, Int.mul_add, HPM.out]
            omega
          · obtain rfl : m = j := by omega
            have hl : ¬ (m : Int) < (m : Int) := by omega
            have hcp6 := (hb6.cell (p := ⟨tbl, toff + p, none⟩) (by simp; omega)).trans hcp5
            obtain ⟨uv, huv, huR⟩ := HUU.out m hj
            have huv6 := (hb6.cell (p := ⟨ubl, uoff + m, none⟩) (by simpa using Nat.lt_of_lt_of_le hub1 hz5)).trans ((hb5.cell (p := ⟨ubl, uoff + m, none⟩) hub1).trans huv)
            obtain ⟨cs1, hcs1, hs1⟩ := ((huR.keepB hb5).keepB hb6).src
            obtain ⟨va, vn, vc, rfl⟩ : ∃ a n c, uv = .slice a n c := by obtain ⟨a, c, e, _⟩ := huR; exact ⟨a, _, c, e⟩
            obtain ⟨cs2, hcs2, hs2⟩ := (HGR.out.keepB hB6).src
            have hzB6 := hB6.size
            have hlenj : (GT.brs (.mk k2 a2 b2 s3))[m].length ≤ 1399680 := by
              have h1 := HN.out.wb
              have h2 := GT.wt_ok HK.out.1
              have h3 := GT.wtL_len (GT.brs (.mk k2 a2 b2 s3))[m]
              have h4 := GT.wt_brs (GT.check_ok HOK.out.1) HC.out hj
              simp only [GT.wtL] at h1
              omega
            have pj5 : (m : Int) < (Bn : Int) := by omega
            have l1 : tbl < wr.heap.size := by omega
            have l2 : ubl < wr.heap.size := by omega
            clear huv huR
            go_wp2_with (first | (at_builtin; refine append_gens (w0 := w) (v := .slice (some ⟨wr.heap.size, 0, none⟩) 0 0) (o := ⟨some 88, _, _, _, _, _⟩) rfl _ _ rfl rfl (OwnGs.emptyAt (w := wr) (lo := wr.heap.size) (by omega) rfl) rfl (hs1.ext (by repeat (first | with_reducible assumption | with_reducible exact Below.refl _ _ | with_reducible apply Below.drew | (with_reducible refine Below.alloc ?_ (by first | omega | (simp only [World.size_alloc, size_setCell, size_drew, size_drewN]; omega) | (dsimp only; omega) | (simp only [World.size_alloc, size_setCell, size_drew, size_drewN]; dsimp only; omega)) _) | (with_reducible refine Below.setCell ?_ (by first | omega | (simp only [World.size_alloc, size_setCell, size_drew, size_drewN]; omega) | (dsimp only; omega) | (simp only [World.size_alloc, size_setCell, size_drew, size_drewN]; dsimp only; omega)) _)))) hcs1 (by simp; omega) (by simp) ?_; intro v9 w9 k1 k2 k3 k4; have hb9 : Below wr.heap.size wr w9 := (((Below.refl _ _).alloc (Nat.le_refl _) _).grown k2 (by simp) (fun k hk => by simp [Value.ownBlock] at hk; omega)); clear k2 k3 k4) | (at_builtin; refine append_gens (w0 := w) (v := v9) (o := ⟨some 90, _, _, _, _, _⟩) rfl _ _ rfl rfl k1 rfl (hs2.ext hb9) hcs2 (by simp; omega) (by exact hb9.size) ?_; intro v10 w10 m1 m2 m3 m4))
            have hb10 : Below wr.heap.size wr w10 := hb9.grown m2 hb9.size (fun k hk => (k1.form2 k hk).1)
            rw [List.nil_append] at m1
            have H : Hid (_ ∧ _) := HN.out.choose HC.out hj HX.out.1 HX.out.2.1 HX.out.2.2.1 (hB6.trans (hb10.mono hzB6)) (m1.v.mono (fun _ _ _ => trivial))
            have HN' : Hid (n' = n + GT.prodL rest * GT.sumP ((GT.brs (.mk k2 a2 b2 s3)).take m)) := by have := HNN.out; rw [HPE.out] at this; exact this
            clear k1 m1 m2 m3 m4 hb9 hcs1 hcs2 hs1 hs2 hb10
            go_roundg (GT.wtL ((GT.brs (.mk k2 a2 b2 s3))[m] ++ rest))
            case measure => exact H.out.2
            case rel => exact ⟨_, _, _, p + 1, rfl, by go_num, by rw [HN'.out]; exact H.out.1⟩
      · have hk13 : k2 = 1 ∨ k2 = 3 := by
          simp only [GT.Chs, GT.kind] at hc
          rcases GT.one_cases (GT.ok_one (GT.check_ok hok.1)) with ⟨e, _⟩ | ⟨e, h0, h0', h1, h2, h3⟩ | e | ⟨e, h1, h2, h3⟩ | ⟨e, h1⟩ <;> omega
        clear hc
        rcases hk13 with rfl | rfl
        · have hne : ((1 : Int) == 3) = false := by decide
          have hq := fun (w : World) (n c : Nat) => Lib.run_eql_slice_nil (P := Try.prog) w 81 41 none n c 0 0 Try.underlying81
          have x3g := x3.cell 1
          have x3h := x3.cell 2
          simp only [List.getElem?_toArray, List.getElem?_cons_succ, List.getElem?_cons_zero] at x3g x3h
          clear hok
          go_wp2_with fail
          refine (branches_1 _ _ s3 _ _ _ w _).mono ?_
          rintro e w5 ⟨rfl, hb5⟩
          have hB5 : Below wo.heap.size wo w5 := hB3.trans (hb5.mono hB3.size)
          have H := Lib.hid (HN.out.just hB5 (HGR.out.keepB hB5))
          clear d0 d3 x3g x3h hb5
          go_wp2_with fail
          go_roundg (GT.wtL rest)
          case measure => exact H.out.2
          case rel => exact ⟨_, _, _, _, rfl, rfl, H.out.1⟩
        · have hgs := hs3.gs (w := W3) (hbr.trans (hB3.mono hzr))
          have hlen3 : s3.length ≤ 29 := (GT.parts_kids (GT.check_parts hok.1)).1
          obtain ⟨cs1, hcs1, hsrc1⟩ := hgs.src HGN.out.nil0
          obtain ⟨cs2, hcs2, hsrc2⟩ := (HGR.out.keepB hB3).src
          have q2 : (3 : Int) == 3 := rfl
          go_wp2_with (first | (at_builtin; refine append_gens (w0 := w) (v := .slice (some ⟨wo.heap.size + 1, 0, none⟩) 0 0) (o := ⟨some 52, _, _, _, _, _⟩) rfl _ _ rfl rfl (OwnGs.emptyAt (w := W3) (lo := wo.heap.size) (by omega) (by omega)) rfl (hsrc1.ext (by repeat (first | with_reducible assumption | with_reducible exact Below.refl _ _ | with_reducible apply Below.drew | (with_reducible refine Below.alloc ?_ (by first | omega | (simp only [World.size_alloc, size_setCell, size_drew, size_drewN]; omega) | (dsimp only; omega) | (simp only [World.size_alloc, size_setCell, size_drew, size_drewN]; dsimp only; omega)) _) | (with_reducible refine Below.setCell ?_ (by first | omega | (simp only [World.size_alloc, size_setCell, size_drew, size_drewN]; omega) | (dsimp only; omega) | (simp only [World.size_alloc, size_setCell, size_drew, size_drewN]; dsimp only; omega)) _)))) hcs1 (by simp; omega) (by simp; omega) ?_; intro v5 w5 g1 g2 g3 g4; have hb5 : Below wo.heap.size wo w5 := ((hB3.alloc (by omega) _).grown g2 (by simp; omega) (fun k hk => by simp [Value.ownBlock] at hk; omega)); have hb5' : Below W3.heap.size W3 w5 := (((Below.refl _ _).alloc (Nat.le_refl _) _).grown g2 (by simp) (fun k hk => by simp [Value.ownBlock] at hk; omega)); clear g2 g3 g4) | (at_builtin; refine append_gens (w0 := w) (v := v5) (o := ⟨some 54, _, _, _, _, _⟩) rfl _ _ rfl rfl g1 rfl (hsrc2.ext hb5') hcs2 (by simp; omega) (by exact hb5.size) ?_; intro v6 w6 g5 g6 g7 g8))
          have hB6 := hb5.grown g6 hb5.size (fun k hk => (g1.form2 k hk).1)
          rw [List.nil_append] at g5
          have H := Lib.hid (HN.out.both hB6 (g5.v.mono (fun _ _ _ => trivial)))
          clear g1 g5 g6 g7 g8 hb5 hb5' hcs1 hcs2 hsrc1 hsrc2
          go_roundg (GT.wtL (s3 ++ rest))
          case measure => exact H.out.2
          case rel => exact ⟨_, _, _, _, rfl, rfl, H.out.1⟩
set_option maxHeartbeats 1000000 in
theorem rank_bad1 (g : GT) (hc : (GT.countR g).2 ≠ 0) (v tv : Value) (w : World) (hg : GenAt w v g) :
    Calls Try.prog 30 #[v, tv] w fun e w' => e = .returned (.tuple #[.int .i64 0, errV (GT.countR g).2]) ∧ Below w.heap.size w w' := by
  obtain ⟨k, a, b, t, ad, cap, rfl⟩ := hg.shape
  have C1 := Lib.hid (fun W (h : Below w.heap.size w W) => gen_count_any g (.agg #[.int .i64 k, .int .i64 a, .int .i64 b, .slice ad t cap]) W (hg.ext h))
  rw [errV_ne hc] at *
  generalize GT.countR g = r at *
  clear hc hg
  go_enter Try.func30, Try.ntmps30
  go_wp2_with fail
  refine (C1.out _ (by repeat (first | with_reducible assumption | with_reducible exact Below.refl _ _ | with_reducible apply Below.drew | (with_reducible refine Below.alloc ?_ (by first | omega | (simp only [World.size_alloc, size_setCell, size_drew, size_drewN]; omega) | (dsimp only; omega) | (simp only [World.size_alloc, size_setCell, size_drew, size_drewN]; dsimp only; omega)) _) | (with_reducible refine Below.setCell ?_ (by first | omega | (simp only [World.size_alloc, size_setCell, size_drew, size_drewN]; omega) | (dsimp only; omega) | (simp only [World.size_alloc, size_setCell, size_drew, size_drewN]; dsimp only; omega)) _)))).mono ?_
  rintro e w1 ⟨rfl, hb1⟩
  have hB1 : Below w.heap.size w w1 := Below.trans (by repeat (first | with_reducible assumption | with_reducible exact Below.refl _ _ | with_reducible apply Below.drew | (with_reducible refine Below.alloc ?_ (by first | omega | (simp only [World.size_alloc, size_setCell, size_drew, size_drewN]; omega) | (dsimp only; omega) | (simp only [World.size_alloc, size_setCell, size_drew, size_drewN]; dsimp only; omega)) _) | (with_reducible refine Below.setCell ?_ (by first | omega | (simp only [World.size_alloc, size_setCell, size_drew, size_drewN]; omega) | (dsimp only; omega) | (simp only [World.size_alloc, size_setCell, size_drew, size_drewN]; dsimp only; omega)) _))) (hb1.mono (by first | omega | (simp only [World.size_alloc, size_setCell, size_drew, size_drewN]; omega) | (dsimp only; omega) | (simp only [World.size_alloc, size_setCell, size_drew, size_drewN]; dsimp only; omega)))
  obtain ⟨hc1, hf1, hz1⟩ := bcell hb1
  try simp only [World.size_alloc, size_setCell, size_drew, size_drewN] at hz1
  clear hb1
  have y1_0 : w.heap.size < w1.heap.size := by omega
  go_wp2_with fail
  go_ret2
  exact ⟨rfl, by repeat (first | with_reducible assumption | with_reducible exact Below.refl _ _ | with_reducible apply Below.drew | (with_reducible refine Below.alloc ?_ (by first | omega | (simp only [World.size_alloc, size_setCell, size_drew, size_drewN]; omega) | (dsimp only; omega) | (simp only [World.size_alloc, size_setCell, size_drew, size_drewN]; dsimp only; omega)) _) | (with_reducible refine Below.setCell ?_ (by first | omega | (simp only [World.size_alloc, size_setCell, size_drew, size_drewN]; omega) | (dsimp only; omega) | (simp only [World.size_alloc, size_setCell, size_drew, size_drewN]; dsimp only; omega)) _))⟩
set_option maxHeartbeats 1000000 in
theorem rank_bad2 (g : GT) (hk : GT.Ok g) (tape : List Int) (hp : (playR g tape).2 ≠ 0) (v tv : Value) (w : World) (hg : GenAt w v g) (ht : IntsAt w tv tape) :
    Calls Try.prog 30 #[v, tv] w fun e w' => e = .returned (.tuple #[.int .i64 0, errV (playR g tape).2]) ∧ Below w.heap.size w w' := by
  obtain ⟨k, a, b, t, ad, cap, rfl⟩ := hg.shape
  have C1 := Lib.hid (fun W (h : Below w.heap.size w W) => gen_count_any g (.agg #[.int .i64 k, .int .i64 a, .int .i64 b, .slice ad t cap]) W (hg.ext h))
  have C2 := Lib.hid (fun W (h : Below w.heap.size w W) => replay_any g tape (.agg #[.int .i64 k, .int .i64 a, .int .i64 b, .slice ad t cap]) tv W (hg.ext h) (ht.ext h))
  rw [hk.countR, errV_zero] at C1
  rw [errV_ne hp] at *
  obtain ⟨tad, tcap, rfl, htl, htm, _, _⟩ := ht.form
  generalize GT.count g = cn at *
  generalize playR g tape = pr at *
  clear hp hg hk ht
  go_enter Try.func30, Try.ntmps30
  go_wp2_with fail
  refine (C1.out _ (by repeat (first | with_reducible assumption | with_reducible exact Below.refl _ _ | with_reducible apply Below.drew | (with_reducible refine Below.alloc ?_ (by first | omega | (simp only [World.size_alloc, size_setCell, size_drew, size_drewN]; omega) | (dsimp only; omega) | (simp only [World.size_alloc, size_setCell, size_drew, size_drewN]; dsimp only; omega)) _) | (with_reducible refine Below.setCell ?_ (by first | omega | (simp only [World.size_alloc, size_setCell, size_drew, size_drewN]; omega) | (dsimp only; omega) | (simp only [World.size_alloc, size_setCell, size_drew, size_drewN]; dsimp only; omega)) _)))).mono ?_
  rintro e w1 ⟨rfl, hb1⟩
  have hB1 : Below w.heap.size w w1 := Below.trans (by repeat (first | with_reducible assumption | with_reducible exact Below.refl _ _ | with_reducible apply Below.drew | (with_reducible refine Below.alloc ?_ (by first | omega | (simp only [World.size_alloc, size_setCell, size_drew, size_drewN]; omega) | (dsimp only; omega) | (simp only [World.size_alloc, size_setCell, size_drew, size_drewN]; dsimp only; omega)) _) | (with_reducible refine Below.setCell ?_ (by first | omega | (simp only [World.size_alloc, size_setCell, size_drew, size_drewN]; omega) | (dsimp only; omega) | (simp only [World.size_alloc, size_setCell, size_drew, size_drewN]; dsimp only; omega)) _))) (hb1.mono (by first | omega | (simp only [World.size_alloc, size_setCell, size_drew, size_drewN]; omega) | (dsimp only; omega) | (simp only [World.size_alloc, size_setCell, size_drew, size_drewN]; dsimp only; omega)))
  have x1 := (Blk.new w #[.int .i64 k, .int .i64 a, .int .i64 b, .slice ad t cap] 43).ext hb1
  have f0 := x1.cell 0
  have f1 := x1.cell 1
  have f2 := x1.cell 2
  have f3 := x1.cell 3
  simp only [List.getElem?_toArray, List.getElem?_cons_succ, List.getElem?_cons_zero] at f0 f1 f2 f3
  have hz1 := hB1.size
  clear hb1
  go_wp2_with fail
  refine (C2.out _ (by repeat (first | with_reducible assumption | with_reducible exact Below.refl _ _ | with_reducible apply Below.drew | (with_reducible refine Below.alloc ?_ (by first | omega | (simp only [World.size_alloc, size_setCell, size_drew, size_drewN]; omega) | (dsimp only; omega) | (simp only [World.size_alloc, size_setCell, size_drew, size_drewN]; dsimp only; omega)) _) | (with_reducible refine Below.setCell ?_ (by first | omega | (simp only [World.size_alloc, size_setCell, size_drew, size_drewN]; omega) | (dsimp only; omega) | (simp only [World.size_alloc, size_setCell, size_drew, size_drewN]; dsimp only; omega)) _)))).mono ?_
  rintro e w2 ⟨⟨rv, rfl, hrv⟩, hb2⟩
  obtain ⟨rl, rn, rk, rad, rcap, rfl⟩ := hrv.shape
  have hB2 : Below w.heap.size w w2 := hB1.trans (hb2.mono (by omega))
  have hz2 := hB2.size
  clear f0 f1 f2 f3 hb2 hrv
  go_wp2_with fail
  go_ret2
  exact ⟨rfl, by repeat (first | with_reducible assumption | with_reducible exact Below.refl _ _ | with_reducible apply Below.drew | (with_reducible refine Below.alloc ?_ (by first | omega | (simp only [World.size_alloc, size_setCell, size_drew, size_drewN]; omega) | (dsimp only; omega) | (simp only [World.size_alloc, size_setCell, size_drew, size_drewN]; dsimp only; omega)) _) | (with_reducible refine Below.setCell ?_ (by first | omega | (simp only [World.size_alloc, size_setCell, size_drew, size_drewN]; omega) | (dsimp only; omega) | (simp only [World.size_alloc, size_setCell, size_drew, size_drewN]; dsimp only; omega)) _))⟩
end Go.Proofs.Ytjobgkcoblpbcaa
