/- The walk through the document's answer on so many times so many tapes. -/
import Derived.Test.YtbfnlaplhgknaaaDoorTP1
import Derived.Test.YtbfnlaplhgknaaaDoorRSE
import Derived.Test.YtbfnlaplhgknaaaDoorRL1
namespace Go.Proofs.YtbfnlaplhgknaaaDoor
set_option maxRecDepth 100000
open Go.RowKit
set_option linter.unusedSimpArgs false
set_option linter.unusedVariables false
theorem mulL_append (A C B : List (List Int)) : mulL (A ++ C) B = mulL A B ++ mulL C B := by
  induction A with
  | nil => simp [mulL]
  | cons x A ih => simp only [List.cons_append, mulL, ih, List.append_assoc]
/-- What stands after some rounds. -/
def mulAt (A B : List (List Int)) (i j : Nat) : List (List Int) := mulL (A.take i) B ++ (B.take j).map (A.getD i [] ++ ·)
theorem mulAt_zero (A B : List (List Int)) : mulAt A B 0 0 = [] := by simp [mulAt, mulL]
theorem mulAt_step (A B : List (List Int)) (i j : Nat) (hi : i < A.length) (hj : j < B.length) : mulAt A B i (j + 1) = mulAt A B i j ++ [A[i] ++ B[j]] := by
  unfold mulAt
  rw [List.take_add_one, List.getElem?_eq_getElem hj, List.map_append, ← List.append_assoc]
  simp [List.getD_eq_getElem?_getD, List.getElem?_eq_getElem hi]
theorem mulAt_turn (A B : List (List Int)) (i : Nat) (hi : i < A.length) : mulAt A B (i + 1) 0 = mulAt A B i B.length := by
  unfold mulAt
  rw [List.take_add_one, List.getElem?_eq_getElem hi, mulL_append]
  simp [mulL, List.getD_eq_getElem?_getD, List.getElem?_eq_getElem hi]
theorem mulAt_end (A B : List (List Int)) : mulAt A B A.length 0 = mulL A B := by simp [mulAt]
theorem mulAt_len (A B : List (List Int)) (i j : Nat) (hi : i < A.length) (hj : j ≤ B.length) : (mulAt A B i j).length ≤ A.length * B.length := by
  unfold mulAt
  rw [List.length_append, mulL_len, List.length_map, List.length_take, List.length_take]
  have h1 : min i A.length = i := by omega
  have h2 : min j B.length = j := by omega
  rw [h1, h2]
  have h3 : (i + 1) * B.length ≤ A.length * B.length := Nat.mul_le_mul_right _ (by omega)
  rw [Nat.add_mul] at h3
  omega
set_option maxHeartbeats 8000000 in
theorem rtimes_any (A B : List (List Int)) (M : Nat) (hM : M ≤ 8796093022208) (hA : ∀ x ∈ A, x.length ≤ M) (hB : ∀ x ∈ B, x.length ≤ M) (hn : A.length * B.length ≤ 1000000000) (hnA : A.length ≤ 1000000000) (hnB : B.length ≤ 1000000000) (va vb : Value) (Sa Sb : Nat → Prop) (w : World) (ha : RwAt IntsS w Sa va A) (hb : RwAt IntsS w Sb vb B) :
    Calls Tryd.prog 50 #[va, vb] w fun e w' => (∃ u, e = .returned u ∧ OwnRw IntsS 25 w' w.heap.size u (mulL A B)) ∧ Below w.heap.size w w' := by
  obtain ⟨aad, acap, rfl, ha1, ha2, _, hac⟩ := ha
  obtain ⟨bad, bcap, rfl, hb1, hb2, _, hbc⟩ := hb
  unfold maxLen at ha2 hb2
  obtain ⟨na, hna⟩ : ∃ n, n = A.length := ⟨_, rfl⟩
  obtain ⟨nb, hnb⟩ : ∃ n, n = B.length := ⟨_, rfl⟩
  rw [← hna] at ha1 hnA ⊢
  rw [← hnb] at hb1 hnB ⊢
  have HNA := Lib.hid hna
  have HNB := Lib.hid hnb
  have HAC := Lib.hid hac
  have HBC := Lib.hid hbc
  have HLA := Lib.hid hA
  have HLB := Lib.hid hB
  have HN := Lib.hid hn
  clear hna hnb hac hbc hA hB hn
  go_enter Tryd.func50, Tryd.ntmps50
  go_wp2_with fail
  go_loopw [5, 6] (fun o i wr => ∃ k : Nat, k ≤ na ∧ i = .int .i64 k ∧ Below w.heap.size w wr ∧ Hid (OwnRw IntsS 25 wr w.heap.size o (mulAt A B k 0))) (fun _ i _ => na - (intOf i).toNat)
  case atStart => exact ⟨0, by omega, rfl, Below.refl _ _, by show OwnRw _ _ _ _ _ _; rw [mulAt_zero]; exact OwnRw.nil _ _ _ _⟩
  case round =>
    obtain ⟨k, hk, rfl, hbr, HO⟩ := hrel
    by_cases hkl : k < na
    · have p0 : (0 : Int) ≤ (k : Int) := by omega
      have p1 : (k : Int) < (na : Int) := by omega
      have hkA : k < A.length := by rw [← HNA.out]; exact hkl
      obtain ⟨abl, aoff, rfl, hal, _, hau⟩ := HAC.out (by omega)
      obtain ⟨av, hav, havR⟩ := hau k hkA
      have HAV := Lib.hid havR
      obtain ⟨aa, an, acp, rfl⟩ : ∃ a n c, av = .slice a n c := by obtain ⟨_, a, c, e, _⟩ := havR; exact ⟨_, _, _, e⟩
      clear hau havR
      go_wp2_with fail
      go_loopw [5, 7] (fun o i wr => ∃ j : Nat, j ≤ nb ∧ i = .int .i64 j ∧ Below w.heap.size w wr ∧ Hid (OwnRw IntsS 25 wr w.heap.size o (mulAt A B k j))) (fun _ i _ => nb - (intOf i).toNat)
      case atStart => exact ⟨0, by omega, rfl, hbr, HO⟩
      case round =>
        obtain ⟨j, hj, rfl, hbs, HP⟩ := hrel
        by_cases hjl : j < nb
        · have q0 : (0 : Int) ≤ (j : Int) := by omega
          have q1 : (j : Int) < (nb : Int) := by omega
          have hjB : j < B.length := by rw [← HNB.out]; exact hjl
          obtain ⟨bbl, boff, rfl, hbl, _, hbu⟩ := HBC.out (by omega)
          obtain ⟨bv, hbv, hbvR⟩ := hbu j hjB
          have HBV := Lib.hid hbvR
          obtain ⟨ba, bn, bcp, rfl⟩ : ∃ a n c, bv = .slice a n c := by obtain ⟨_, a, c, e, _⟩ := hbvR; exact ⟨_, _, _, e⟩
          have g0 := (hbs.cell (p := ⟨abl, aoff + k, none⟩) hal).trans hav
          have g1 := (hbs.cell (p := ⟨bbl, boff + j, none⟩) hbl).trans hbv
          have hz := hbs.size
          have hal2 : abl < wr.heap.size := by omega
          have hbl2 : bbl < wr.heap.size := by omega
          have HAW := Lib.hid (HAV.out.keepB hbs).at
          have HBW := Lib.hid (HBV.out.keepB hbs).at
          have hla : A[k].length ≤ M := HLA.out _ (List.getElem_mem hkA)
          have hlb : B[j].length ≤ M := HLB.out _ (List.getElem_mem hjB)
          have hln : (mulAt A B k j).length ≤ 1000000000 := Nat.le_trans (mulAt_len A B k j hkA (by omega)) HN.out
          have HST := Lib.hid (mulAt_step A B k j hkA hjB)
          have hol := HP.out.lt
          have HV1 := Lib.hid hav
          have HV2 := Lib.hid hbv
          clear hbu hbvR hav hbv
          go_wp2_with fail
          refine region_mov (S := fun w' => w'.cell? ⟨abl, aoff + k, none⟩ = some (.slice aa an acp) ∧ w'.cell? ⟨bbl, boff + j, none⟩ = some (.slice ba bn bcp)) (n := 14) (ms := [(true, 0), (true, 2), (true, 3), (true, 4), (true, 5), (true, 7), (true, 8), (true, 9), (true, 10), (false, 1), (false, 6), (false, 11), (false, 12), (false, 13), (false, 14)])
            (hm := by kernel_rfl) (hB := by kernel_rfl) (hQ := fun c a d v w h => by cases d <;> exact h) ?_
          have HS0 : Hid ((fun w' => w'.cell? ⟨abl, aoff + k, none⟩ = some (.slice aa an acp) ∧ w'.cell? ⟨bbl, boff + j, none⟩ = some (.slice ba bn bcp)) wr.drew) := ⟨g0, g1⟩
          iterate 9
            rw [mov_take]
            simp only [List.getElem?_toArray, List.getElem?_cons_succ, List.getElem?_cons_zero]
            refine ⟨?_, .inl ⟨by rfl, ?_⟩, HS0.out, ?_⟩
            rotate_left
            · rintro w' ⟨s0, s1⟩
              go_simp
              rfl
            simp only [Act.put, List.setIfInBounds_toArray, List.set_cons_zero, List.set_cons_succ]
          have hBd : Below w.heap.size w wr.drew := hbs.drew
          have HAD : Hid (IntsAt wr.drew (.slice aa an acp) A[k]) := HAW.out.ext (Below.drew (Below.refl _ _))
          have HBD : Hid (IntsAt wr.drew (.slice ba bn bcp) B[j]) := HBW.out.ext (Below.drew (Below.refl _ _))
          have HPD : Hid (OwnRw IntsS 25 wr.drew w.heap.size _ (mulAt A B k j)) := HP.out.keep IntsS.reads (Below.drew (Below.refl _ _))
          have hzd : wr.drew.heap.size = wr.heap.size := rfl
          have l1 : abl < wr.drew.heap.size := by omega
          have l2 : bbl < wr.drew.heap.size := by omega
          have l3 : w.heap.size ≤ wr.drew.heap.size := by omega
          clear g0 g1 HP HAW HBW hzd hal2 hbl2 hz
          generalize wr.drew = Wd at *
          have HS : Hid (∀ W', Below Wd.heap.size Wd W' → (fun w' => w'.cell? ⟨abl, aoff + k, none⟩ = some (.slice aa an acp) ∧ w'.cell? ⟨bbl, boff + j, none⟩ = some (.slice ba bn bcp)) W') := fun W' h => ⟨(h.cell (p := ⟨abl, _, none⟩) l1).trans HS0.out.1, (h.cell (p := ⟨bbl, _, none⟩) l2).trans HS0.out.2⟩
          clear HS0
          rw [mov_step]
          simp only [List.getElem?_toArray, List.getElem?_cons_succ, List.getElem?_cons_zero]
          go_wp2_with fail
          refine And.intro (HS.out _ ((Below.refl _ _).alloc (Nat.le_refl _) _)) ?_
          rw [mov_step]
          simp only [List.getElem?_toArray, List.getElem?_cons_succ, List.getElem?_cons_zero]
          go_wp2_with (at_builtin; refine append_ints (o := ⟨some 26, _, _, _, _, _⟩) rfl _ _ rfl rfl (OwnInts.lit _ Wd.heap.size [] (Nat.le_refl _) (by decide)) rfl (HAD.out.ext ((Below.refl _ _).alloc (Nat.le_refl _) _)) (by simp; omega) (by simp) ?_; intro v1 w1 ho1 hg1 _; have hb1 := grown_lit hg1; clear hg1)
          rw [List.nil_append] at ho1
          refine And.intro (HS.out _ hb1) ?_
          rw [mov_step]
          simp only [List.getElem?_toArray, List.getElem?_cons_succ, List.getElem?_cons_zero]
          go_wp2_with (at_builtin; refine append_ints (o := ⟨some 31, _, _, _, _, _⟩) rfl _ _ rfl rfl ho1 rfl (HBD.out.ext hb1) (by omega) hb1.size ?_; intro v2 w2 ho2 hg2 _; have hb2 := hb1.trans (grown_own ho1 hg2 hb1.size); clear hg2)
          refine And.intro (HS.out _ hb2) ?_
          have h64 : ∀ n ∈ A[k] ++ B[j], In64 n := by
            intro n hn
            rcases List.mem_append.1 hn with h | h
            · exact HAD.out.1 n h
            · exact HBD.out.1 n h
          have hr2 : IntsS w2 (fun b => Wd.heap.size ≤ b) v2 (A[k] ++ B[j]) := (ho2.s h64).mono (fun b hb _ => (ho2.lo b hb).1)
          obtain ⟨y, hy⟩ : ∃ y, y = A[k] ++ B[j] := ⟨_, rfl⟩
          rw [← hy] at hr2 HST
          clear h64 ho2 ho1
          obtain ⟨a2, c2, rfl⟩ : ∃ a c, v2 = .slice a y.length c := by obtain ⟨_, a, c, e, _⟩ := hr2; exact ⟨a, c, e⟩
          have HR2 := Lib.hid hr2
          clear hr2 hy
          generalize y.length = ny at *
          rw [mov_step]
          simp only [List.getElem?_toArray, List.getElem?_cons_succ, List.getElem?_cons_zero]
          go_wp2_with fail
          refine And.intro (fun _ => HS.out _ (hb2.alloc hb2.size _)) ?_
          rw [mov_step]
          simp only [List.getElem?_toArray, List.getElem?_cons_succ, List.getElem?_cons_zero]
          have HPE := Lib.hid (HPD.out.keep IntsS.reads (hb2.alloc hb2.size (.cells #[.slice a2 ny c2] 25)))
          have hol2 := HPD.out.lt
          have HB2 := Lib.hid hb2
          clear hb2 hb1
          go_wp2_with (at_builtin; refine append_rw IntsS.reads (B := mulAt A B k j) (o := ⟨some 33, _, _, _, _, _⟩) (y := y) rfl _ _ 54 25 rfl Tryd.underlying54 info_ints rfl HPE.out rfl (Blk.new _ _ _) (IntsS.reads.keep HR2.out (by simp) (fun x hx hl => ⟨⟨by omega, fun e => by have h1 := hol2 x e; omega⟩, Below.heap_alloc w2 _ x hl⟩)) hln (by simp; have := HB2.out.size; omega) ?_; intro o6 w6 ho6 hg6 hat6)
          have hB6 : Below w.heap.size w w6 := ((hBd.trans (HB2.out.mono l3)).alloc (by have := HB2.out.size; omega) _).grown hg6 (by simp; have := HB2.out.size; omega) (fun x hx => (hol2 x hx).1)
          have HO6 : Hid (OwnRw IntsS 25 w6 w.heap.size o6 (mulAt A B k (j + 1))) := by show OwnRw _ _ _ _ _ _; rw [HST.out]; exact ho6
          clear ho6 hg6 hat6
          refine And.intro ⟨(hB6.cell (p := ⟨abl, aoff + k, none⟩) hal).trans HV1.out, (hB6.cell (p := ⟨bbl, boff + j, none⟩) hbl).trans HV2.out⟩ ?_
          rw [mov_step]
          simp only [List.getElem?_toArray, List.getElem?_cons_succ, List.getElem?_cons_zero]
          go_wp2_with fail
          refine And.intro (fun h => absurd h (by omega)) ?_
          rw [wpMov]
          go_wp2_with fail
          exact ⟨⟨j + 1, by omega, by go_num, hB6, HO6⟩, by simp [intOf]; omega⟩
        · have q1 : ¬ (j : Int) < (nb : Int) := by omega
          have hjn : j = nb := by omega
          have h := HP.out
          rw [hjn, HNB.out, ← mulAt_turn A B k hkA] at h
          have HT := Lib.hid h
          clear h
          clear HP hjn
          go_wp2_with fail
          exact ⟨⟨k + 1, by omega, by go_num, hbs, HT⟩, by simp [intOf]; omega⟩
    · have p1 : ¬ (k : Int) < (na : Int) := by omega
      have hkn : k = na := by omega
      have h := HO.out
      rw [hkn, HNA.out, mulAt_end] at h
      have HT := Lib.hid h
      clear h
      clear HO hkn
      go_wp2_with fail
      go_ret
      exact ⟨⟨_, rfl, HT.out⟩, hbr⟩
end Go.Proofs.YtbfnlaplhgknaaaDoor
