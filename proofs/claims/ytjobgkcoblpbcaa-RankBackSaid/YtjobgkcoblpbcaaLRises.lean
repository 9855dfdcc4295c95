/- RankRises: the walk through the statement. -/
import Derived.Test.YtjobgkcoblpbcaaRank4
import Derived.Test.YtjobgkcoblpbcaaLMade
import Derived.Test.YtjobgkcoblpbcaaTape
namespace Go.Proofs.Ytjobgkcoblpbcaa
open Go.RowKit
set_option linter.unusedSimpArgs false
set_option linter.unusedVariables false
theorem getD_app_lt (p s : List Int) (j : Nat) (h : j < p.length) : (p ++ s).getD j 0 = p.getD j 0 := by
  simp [List.getD_eq_getElem?_getD, List.getElem?_append_left h]
theorem getD_app_at (p s : List Int) (x : Int) : (p ++ x :: s).getD p.length 0 = x := by
  simp [List.getD_eq_getElem?_getD]
theorem getD_take_eq {a b : List Int} {j m : Nat} (h : a.take j = b.take j) (hm : m < j) : a.getD m 0 = b.getD m 0 := by
  have h1 : (a.take j)[m]? = (b.take j)[m]? := by rw [h]
  rw [List.getElem?_take, List.getElem?_take, if_pos hm, if_pos hm] at h1
  simp [List.getD_eq_getElem?_getD, h1]
theorem GT.Ahead.at' {i k : Int} {a b : List Int} (h : GT.Ahead i k a b) {j : Nat} (ht : a.take j = b.take j) (hne : a.getD j 0 ≠ b.getD j 0) : (a.getD j 0 < b.getD j 0 ↔ i < k) := by
  rcases h with ⟨_, rfl⟩ | ⟨p, x, y, s', t', rfl, rfl, h1, h2, h3⟩
  · exact absurd rfl hne
  · have hj : j = p.length := by
      rcases Nat.lt_trichotomy j p.length with h | h | h
      · rw [getD_app_lt _ _ _ h, getD_app_lt _ _ _ h] at hne; exact absurd rfl hne
      · exact h
      · have := getD_take_eq ht h
        rw [getD_app_at, getD_app_at] at this
        exact absurd this h1
    subst hj
    rw [getD_app_at, getD_app_at]
    exact h3
theorem GT.Ahead.last {i k : Int} {a b : List Int} (h : GT.Ahead i k a b) {j : Nat} (ht : a.take j = b.take j) (hj : j = a.length ∨ j = b.length) : i = k ∧ a.length = b.length := by
  rcases h with ⟨h, rfl⟩ | ⟨p, x, y, s', t', rfl, rfl, h1, h2, h3⟩
  · exact ⟨h, rfl⟩
  · exfalso
    have hp : p.length < j := by rcases hj with e | e <;> rw [e] <;> simp
    have := getD_take_eq ht hp
    rw [getD_app_at, getD_app_at] at this
    exact h1 this
theorem take_succ_any {a b : List Int} (k : Nat) (hk : k < a.length) (hl : k < b.length) (h : a.take k = b.take k) (e : a.getD k 0 = b.getD k 0) : a.take (k + 1) = b.take (k + 1) := by
  rw [List.take_succ_eq_append_getElem hk, List.take_succ_eq_append_getElem hl, h]
  simp [List.getD_eq_getElem?_getD, hk, hl] at e
  rw [e]
theorem GT.ok_of_countR {g : GT} (h : (GT.countR g).2 = 0) : GT.Ok g := by
  unfold GT.countR at h
  split at h
  · rename_i h1
    split at h
    · simp at h
    · exact ⟨h1, by omega⟩
  · rename_i h1; exact absurd h h1
/-- Which numbers have a tape. -/
def HasNth (g : GT) (i : Int) : Prop := GT.Ok g ∧ 0 ≤ i ∧ i < GT.count g
theorem nth_err (g : GT) (i : Int) (h : ¬ HasNth g i) (v : Value) (w : World) (hg : GenAt w v g) :
    Calls Try.prog 28 #[v, .int .i64 i] w fun e w' => (∃ er, er ≠ 0 ∧ e = .returned (.tuple #[.slice none 0 0, errV er])) ∧ Below w.heap.size w w' := by
  by_cases hc : (GT.countR g).2 = 0
  · have hk := GT.ok_of_countR hc
    have ho : i < 0 ∨ GT.count g ≤ i := by
      by_cases h0 : i < 0
      · exact .inl h0
      · by_cases h1 : GT.count g ≤ i
        · exact .inr h1
        · exact absurd ⟨hk, by omega, by omega⟩ h
    exact (nth_out g hk i ho v w hg).mono fun e w' he => ⟨⟨1, by decide, he.1⟩, he.2⟩
  · exact (nth_bad g i hc v w hg).mono fun e w' he => ⟨⟨_, hc, he.1⟩, he.2⟩
theorem nth_tot (g : GT) (i : Int) (v : Value) (w : World) (hg : GenAt w v g) :
    Calls Try.prog 28 #[v, .int .i64 i] w fun e w' => (∃ u er, e = .returned (.tuple #[u, errV er])) ∧ Below w.heap.size w w' := by
  by_cases h : HasNth g i
  · exact (nth_any g h.1 i h.2.1 h.2.2 v w hg).mono fun e w' he => ⟨by obtain ⟨u, t, e1, _⟩ := he.1; exact ⟨u, 0, e1⟩, he.2⟩
  · exact (nth_err g i h v w hg).mono fun e w' he => ⟨by obtain ⟨er, _, e1⟩ := he.1; exact ⟨_, er, e1⟩, he.2⟩
theorem in64_of {l : List Int} (h : ∀ n ∈ l, 0 ≤ n ∧ n ≤ 1000) : ∀ n ∈ l, In64 n := fun n hn => by have := h n hn; exact ⟨by omega, by omega⟩
set_option maxHeartbeats 4000000 in
theorem rises_go {v0 v1 v2 : Value} (w : World) (g : GT) (o0 : GenAt w v0 g) (i : Int) (o1 : IntAt v1 i) (k : Int) (o2 : IntAt v2 k) :
    Calls Try.prog 10 #[v0, v1, v2] w fun e w' => e = .returned (.bool true) ∧ Below w.heap.size w w' := by
  obtain ⟨rfl, hi1, hi2⟩ := o1
  obtain ⟨rfl, hk1, hk2⟩ := o2
  obtain ⟨gk, ga, gb, gn, gad, gcap, rfl⟩ := o0.shape
  have HG := Lib.hid o0
  clear o0
  go_enter Try.func10, Try.ntmps10
  go_wp2_with fail
  refine (made_fact _).mono ?_
  rintro e w1 ⟨rfl, hb1⟩
  have hB1 : Below w.heap.size w w1 := Below.trans (by repeat (first | with_reducible assumption | with_reducible exact Below.refl _ _ | with_reducible apply Below.drew | (with_reducible refine Below.alloc ?_ (by first | omega | (simp only [World.size_alloc, size_setCell, size_drew, size_drewN]; omega) | (dsimp only; omega) | (simp only [World.size_alloc, size_setCell, size_drew, size_drewN]; dsimp only; omega)) _) | (with_reducible refine Below.setCell ?_ (by first | omega | (simp only [World.size_alloc, size_setCell, size_drew, size_drewN]; omega) | (dsimp only; omega) | (simp only [World.size_alloc, size_setCell, size_drew, size_drewN]; dsimp only; omega)) _))) (hb1.mono (by first | omega | (simp only [World.size_alloc, size_setCell, size_drew, size_drewN]; omega) | (dsimp only; omega) | (simp only [World.size_alloc, size_setCell, size_drew, size_drewN]; dsimp only; omega)))
  have x1 := (Blk.new w #[.int .i64 gk, .int .i64 ga, .int .i64 gb, .slice gad gn gcap] 43).ext hb1
  have f0 := x1.cell 0
  have f1 := x1.cell 1
  have f2 := x1.cell 2
  have f3 := x1.cell 3
  simp only [List.getElem?_toArray, List.getElem?_cons_succ, List.getElem?_cons_zero] at f0 f1 f2 f3
  clear hb1
  go_wp2_with fail
  by_cases hA : HasNth g i
  · by_cases hC : HasNth g k
    · refine (nth_any g hA.1 i hA.2.1 hA.2.2 _ _ (HG.out.ext hB1)).mono ?_
      rintro e w2 ⟨⟨u, t, rfl, hu, ht, _, hn⟩, hb2⟩
      have hB2 : Below w.heap.size w w2 := hB1.trans (hb2.mono hB1.size)
      have x2 := x1.ext hb2
      clear f0 f1 f2 f3
      have f0 := x2.cell 0
      have f1 := x2.cell 1
      have f2 := x2.cell 2
      have f3 := x2.cell 3
      simp only [List.getElem?_toArray, List.getElem?_cons_succ, List.getElem?_cons_zero] at f0 f1 f2 f3
      clear hb2
      have HU := Lib.hid hu
      have HT := Lib.hid ht
      have HA := Lib.hid hA
      clear hu ht hA
      go_wp2_with fail
      refine (nth_any g hC.1 k hC.2.1 hC.2.2 _ _ (HG.out.ext hB2)).mono ?_
      rintro e w3 ⟨⟨u', t', rfl, hu', ht', _, hn'⟩, hb3⟩
      have hB3 : Below w.heap.size w w3 := hB2.trans (hb3.mono hB2.size)
      have hah := hn.out.ahead (fun x hx => by rw [List.mem_singleton.1 hx]; exact hC.1) hn'.out
      have HAH := Lib.hid hah
      have i2 := ((HU.out.kept hb3).at (in64_of HT.out))
      have i3 := hu'.at (in64_of ht')
      obtain ⟨ad, ca, rfl, hla, hma, hia, hca⟩ := i2.form
      obtain ⟨bd, cb, rfl, hlb, hmb, hib, hcb⟩ := i3.form
      unfold maxLen at hma hmb
      have HCA := Lib.hid hca
      have HCB := Lib.hid hcb
      clear hah hn hn' HU hu' ht' hC f0 f1 f2 f3 i2 i3 hia hib hca hcb hb3
      go_wp2_with fail
      go_loopw [12] (fun j wr => ∃ m d : Nat, m ≤ t.length ∧ m ≤ t'.length ∧ j = .int .i64 m ∧ wr = w3.drewN d ∧ Hid (t.take m = t'.take m)) (fun j _ => t.length - (intOf j).toNat)
      case atStart => exact ⟨0, 0, by omega, by omega, rfl, rfl, rfl⟩
      case round =>
        obtain ⟨m, d, hm, hm', rfl, rfl, HT⟩ := hrel
        by_cases hlt : m < t.length
        · by_cases hlt' : m < t'.length
          · obtain ⟨ba, oa, rfl, _, hca'⟩ := HCA.out (by omega)
            obtain ⟨bb, ob, rfl, _, hcb'⟩ := HCB.out (by omega)
            have ga := hca' m hlt
            have gb := hcb' m hlt'
            have p0 : (0 : Int) ≤ (m : Int) := by omega
            have p1 : (m : Int) < (t.length : Int) := by omega
            have p2 : (m : Int) < (t'.length : Int) := by omega
            have TS := Lib.hid (take_succ_any m hlt hlt' HT.out)
            have AT := Lib.hid (fun h => HAH.out.at' HT.out h)
            clear hca' hcb'
            generalize t.getD m 0 = x at *
            generalize t'.getD m 0 = y at *
            by_cases hx : x = y
            · have e2 : (x != y) = false := by simp [hx]
              have HX := Lib.hid hx
              clear hx
              go_wp2_with fail
              go_quiet (fail)
              go_wp2_with fail
              exact ⟨⟨m + 1, d + nq, by omega, by omega, by go_num, rfl, TS.out HX.out⟩, by simp [intOf]; omega⟩
            · have e2 : (x != y) = true := by simp [hx]
              have HX := Lib.hid (AT.out hx)
              clear hx
              go_wp2_with fail
              go_quiet (fail)
              go_wp2_with fail
              go_quiet (fail)
              go_wp2_with fail
              go_ret
              refine ⟨?_, ?_⟩
              · by_cases h : x < y
                · simp [h, HX.out.1 h]
                · have h2 : k ≤ i := by have := HX.out; omega
                  simp [h, h2]
              · exact ((hB3.trans (Joins.below_draws _ _ _)).trans (Joins.below_draws _ _ _)).trans (Joins.below_draws _ _ _)
          · have hl := HAH.out.last HT.out (.inr (by omega))
            have e1 : (i == k) = true := by simp [hl.1]
            have e2 : ((t.length : Int) == (t'.length : Int)) = true := by simp [hl.2]
            have p1 : (m : Int) < (t.length : Int) := by omega
            have p2 : ¬ (m : Int) < (t'.length : Int) := by omega
            clear hl
            go_wp2_with fail
            go_ret
            exact ⟨rfl, hB3.trans (Joins.below_draws _ _ _)⟩
        · have hl := HAH.out.last HT.out (.inl (by omega))
          have e1 : (i == k) = true := by simp [hl.1]
          have e2 : ((t.length : Int) == (t'.length : Int)) = true := by simp [hl.2]
          have p1 : ¬ (m : Int) < (t.length : Int) := by omega
          clear hl
          go_wp2_with fail
          go_ret
          exact ⟨rfl, hB3.trans (Joins.below_draws _ _ _)⟩
    · refine (nth_any g hA.1 i hA.2.1 hA.2.2 _ _ (HG.out.ext hB1)).mono ?_
      rintro e w2 ⟨⟨u, t, rfl, hu, _, _, _⟩, hb2⟩
      have hB2 : Below w.heap.size w w2 := hB1.trans (hb2.mono hB1.size)
      have x2 := x1.ext hb2
      clear f0 f1 f2 f3
      have f0 := x2.cell 0
      have f1 := x2.cell 1
      have f2 := x2.cell 2
      have f3 := x2.cell 3
      simp only [List.getElem?_toArray, List.getElem?_cons_succ, List.getElem?_cons_zero] at f0 f1 f2 f3
      clear hb2 hu hA
      go_wp2_with fail
      refine (nth_err g k hC _ _ (HG.out.ext hB2)).mono ?_
      rintro e w3 ⟨⟨er, her, rfl⟩, hb3⟩
      have hB3 : Below w.heap.size w w3 := hB2.trans (hb3.mono hB2.size)
      rw [errV_ne her]
      clear her hb3 hC f0 f1 f2 f3
      go_wp2_with fail
      go_ret
      exact ⟨rfl, hB3⟩
  · refine (nth_err g i hA _ _ (HG.out.ext hB1)).mono ?_
    rintro e w2 ⟨⟨er, her, rfl⟩, hb2⟩
    have hB2 : Below w.heap.size w w2 := hB1.trans (hb2.mono hB1.size)
    have x2 := x1.ext hb2
    clear f0 f1 f2 f3
    have f0 := x2.cell 0
    have f1 := x2.cell 1
    have f2 := x2.cell 2
    have f3 := x2.cell 3
    simp only [List.getElem?_toArray, List.getElem?_cons_succ, List.getElem?_cons_zero] at f0 f1 f2 f3
    rw [errV_ne her]
    clear hb2 hA her
    go_wp2_with fail
    refine (nth_tot g k _ _ (HG.out.ext hB2)).mono ?_
    rintro e w3 ⟨⟨u, er2, rfl⟩, hb3⟩
    have hB3 : Below w.heap.size w w3 := hB2.trans (hb3.mono hB2.size)
    clear hb3 f0 f1 f2 f3
    go_wp2_with fail
    go_ret
    exact ⟨rfl, hB3⟩
end Go.Proofs.Ytjobgkcoblpbcaa
