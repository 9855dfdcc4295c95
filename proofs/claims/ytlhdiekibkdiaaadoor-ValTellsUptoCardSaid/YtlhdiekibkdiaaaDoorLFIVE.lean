/- The walks through the fact that the statements on values ask first; through val.Same. -/
import Derived.Test.YtlhdiekibkdiaaaDoorPRS
import Derived.Test.YtlhdiekibkdiaaaDoorIDX
import Derived.Test.YtlhdiekibkdiaaaDoorRS1
import Derived.Test.YtlhdiekibkdiaaaDoorREG
namespace Go.Proofs.YtlhdiekibkdiaaaDoor
set_option maxRecDepth 100000
open Go.RowKit
set_option linter.unusedSimpArgs false
set_option linter.unusedVariables false
theorem five_text : IsText [40, 53, 41] (.mk true 0 [.mk false 5 []]) := by
  refine ⟨by decide, ⟨⟨by decide, by decide⟩, ⟨⟨by decide, by decide⟩, trivial⟩, trivial⟩, ?_⟩
  have e : Lib.itoa 5 = [53] := by unfold Lib.itoa; rw [if_neg (by decide)]; unfold Lib.decDigits; rfl
  simp [VT.text, VT.texts, Lib.join_one, e]
set_option maxHeartbeats 2000000 in
theorem five_fact (w : World) (hP : PowAt w) (hE : NumErrsAt w) : Calls Tryd.prog 20 #[] w fun e w' => e = .returned (.bool true) ∧ Below w.heap.size w w' := by
  have CP := Lib.hid (parse_any idx_any [40, 53, 41] (by decide) w hP hE)
  clear hP hE
  go_enter Tryd.func20, Tryd.ntmps20
  go_wp2_with fail
  refine CP.out.mono ?_
  rintro e w1 ⟨h, hb⟩
  rcases h with ⟨v, t, rfl, hv, ht⟩ | ⟨rfl, hn⟩
  · have h1 := isText_rd ht
    have h2 := isText_rd five_text
    rw [h2] at h1
    obtain rfl := (Prod.mk.inj h1).1
    obtain ⟨l, n, s, ad, cap, hmk, rfl, hn, hl, hm, hs⟩ := hv.form
    obtain ⟨rfl, rfl, rfl⟩ := VT.mk.inj hmk
    obtain ⟨bl, off, rfl, hlt, hc⟩ := hs.at' (by decide)
    obtain ⟨l2, n2, ad2, t2, cap2, c0, c1, c2, hg2⟩ := hc 0 (by decide)
    obtain ⟨l3, n3, s3, ad3, cap3, hmk3, e3, _⟩ := hg2.form
    obtain ⟨rfl, rfl, rfl⟩ := VT.mk.inj hmk3
    simp only [Nat.zero_mul, Nat.add_zero, Nat.zero_add] at c0 c1 c2
    have e4 : n2 = 5 := by
      simp only [Value.agg.injEq, Array.mk.injEq, List.cons.injEq] at e3
      have := e3.2.1
      injection this
    subst e4
    clear hc hg2 hs hmk hmk3 hv CP h1 h2 ht e3
    simp only [List.length_singleton] at hl ⊢
    go_wp2_with fail
    go_ret
    exact ⟨rfl, hb.alloc hb.size _⟩
  · exact absurd five_text (hn _)
theorem same_text {a b : VT} (ha : VT.chk a 0 = 0) (hb : VT.chk b 0 = 0) (na : VT.Nums a) (nb : VT.Nums b) : (VT.text a == VT.text b) = VT.sameV a b := by
  cases h : VT.sameV a b with
  | true => rw [(VT.sameV_iff a b).1 h]; simp
  | false =>
    have : VT.text a ≠ VT.text b := fun e => by
      have := text_inj ha hb na nb e
      rw [this, VT.sameV_refl] at h
      cases h
    simpa using this
set_option maxHeartbeats 2000000 in
theorem samev_any (a b : VT) (va vb : Value) (w : World) (hP : PowAt w) (ha : ValAt w va a) (hb : ValAt w vb b) (wa : VT.wt a ≤ 1000000000) (wb : VT.wt b ≤ 1000000000) :
    Calls Tryd.prog 28 #[va, vb] w fun e w' => e = .returned (.bool (VT.text a == VT.text b)) ∧ Below w.heap.size w w' := by
  have ta := VT.text_wt a ha.nums
  have tb := VT.text_wt b hb.nums
  have C1 := Lib.hid (fun W (h : Below w.heap.size w W) => text_any a va W (hP.ext h) (ha.ext h) (by omega) wa)
  have C2 := Lib.hid (fun W (h : Below w.heap.size w W) => text_any b vb W (hP.ext h) (hb.ext h) (by omega) wb)
  obtain ⟨l0, n0, k0, g0, c0, rfl⟩ := ha.shape
  obtain ⟨l1, n1, k1, g1, c1, rfl⟩ := hb.shape
  clear ha hb hP ta tb
  generalize VT.text a = ta at *
  generalize VT.text b = tb at *
  go_enter Tryd.func28, Tryd.ntmps28
  go_wp2_with fail
  generalize hW0 : ((w.alloc (.cells #[.bool l0, .int .i64 n0, .slice g0 k0 c0] 34)).alloc (.cells #[.bool l1, .int .i64 n1, .slice g1 k1 c1] 34)) = W0
  have hB0 : Below w.heap.size w W0 := by rw [← hW0]; repeat (first | with_reducible assumption | with_reducible exact Below.refl _ _ | with_reducible apply Below.drew | (with_reducible refine Below.alloc ?_ (by first | omega | (simp only [zA, zS, zD, zN]; omega) | (dsimp only; omega) | (simp only [zA, zS, zD, zN]; dsimp only; omega)) _) | (with_reducible refine Below.setCell ?_ (by first | omega | (simp only [zA, zS, zD, zN]; omega) | (dsimp only; omega) | (simp only [zA, zS, zD, zN]; dsimp only; omega)) _) | (with_reducible apply below_drewN))
  have X0 : Blk W0 (w.heap.size) #[.bool l0, .int .i64 n0, .slice g0 k0 c0] 34 := by rw [← hW0]; exact ((Blk.new w #[.bool l0, .int .i64 n0, .slice g0 k0 c0] 34)).alloc _
  have X1 : Blk W0 (w.heap.size + 1) #[.bool l1, .int .i64 n1, .slice g1 k1 c1] 34 := by rw [← hW0]; exact (show Blk ((w.alloc (.cells #[.bool l0, .int .i64 n0, .slice g0 k0 c0] 34)).alloc (.cells #[.bool l1, .int .i64 n1, .slice g1 k1 c1] 34)) (w.heap.size + 1) _ _ by simpa using Blk.new (w.alloc (.cells #[.bool l0, .int .i64 n0, .slice g0 k0 c0] 34)) #[.bool l1, .int .i64 n1, .slice g1 k1 c1] 34)
  clear hW0
  refine region_mov (S := fun w' => w'.cell? ⟨w.heap.size, 0, none⟩ = some (.bool l0) ∧ w'.cell? ⟨w.heap.size, 1, none⟩ = some (.int .i64 n0) ∧ w'.cell? ⟨w.heap.size, 2, none⟩ = some (.slice g0 k0 c0) ∧ w'.cell? ⟨w.heap.size + 1, 0, none⟩ = some (.bool l1) ∧ w'.cell? ⟨w.heap.size + 1, 1, none⟩ = some (.int .i64 n1) ∧ w'.cell? ⟨w.heap.size + 1, 2, none⟩ = some (.slice g1 k1 c1)) (n := 5) (ms := [(true, 0), (true, 2), (false, 1), (false, 3), (false, 4), (false, 5)]) (hm := by kernel_rfl) (hB := by kernel_rfl) (hQ := fun c a d v w h => by cases d <;> exact h) ?_
  have HS0 : Hid ((fun w' => w'.cell? ⟨w.heap.size, 0, none⟩ = some (.bool l0) ∧ w'.cell? ⟨w.heap.size, 1, none⟩ = some (.int .i64 n0) ∧ w'.cell? ⟨w.heap.size, 2, none⟩ = some (.slice g0 k0 c0) ∧ w'.cell? ⟨w.heap.size + 1, 0, none⟩ = some (.bool l1) ∧ w'.cell? ⟨w.heap.size + 1, 1, none⟩ = some (.int .i64 n1) ∧ w'.cell? ⟨w.heap.size + 1, 2, none⟩ = some (.slice g1 k1 c1)) W0.drew) := ⟨(X0).cell 0, (X0).cell 1, (X0).cell 2, (X1).cell 0, (X1).cell 1, (X1).cell 2⟩
  iterate 2
    rw [mov_take]
    simp only [List.getElem?_toArray, List.getElem?_cons_succ, List.getElem?_cons_zero]
    refine ⟨?_, .inl ⟨by rfl, ?_⟩, HS0.out, ?_⟩
    rotate_left
    · rintro w' ⟨s0, s1, s2, s3, s4, s5⟩
      go_simp
      rfl
    simp only [Act.put, List.setIfInBounds_toArray, List.set_cons_zero, List.set_cons_succ]
  have hBd : Below w.heap.size w W0.drew := hB0.drew
  have XDX0 : Blk W0.drew (w.heap.size) #[.bool l0, .int .i64 n0, .slice g0 k0 c0] 34 := X0
  have XDX1 : Blk W0.drew (w.heap.size + 1) #[.bool l1, .int .i64 n1, .slice g1 k1 c1] 34 := X1
  clear HS0 hB0 X0 X1
  generalize W0.drew = Wd0 at *
  have X0 := XDX0
  have X1 := XDX1
  clear XDX0 XDX1
  have HS : Hid (∀ W', Below (Wd0).heap.size (Wd0) W' → (fun w' => w'.cell? ⟨w.heap.size, 0, none⟩ = some (.bool l0) ∧ w'.cell? ⟨w.heap.size, 1, none⟩ = some (.int .i64 n0) ∧ w'.cell? ⟨w.heap.size, 2, none⟩ = some (.slice g0 k0 c0) ∧ w'.cell? ⟨w.heap.size + 1, 0, none⟩ = some (.bool l1) ∧ w'.cell? ⟨w.heap.size + 1, 1, none⟩ = some (.int .i64 n1) ∧ w'.cell? ⟨w.heap.size + 1, 2, none⟩ = some (.slice g1 k1 c1)) W') := fun W' h => ⟨(X0.ext h).cell 0, (X0.ext h).cell 1, (X0.ext h).cell 2, (X1.ext h).cell 0, (X1.ext h).cell 1, (X1.ext h).cell 2⟩
  rw [mov_step]
  simp only [List.getElem?_toArray, List.getElem?_cons_succ, List.getElem?_cons_zero]
  go_wp2_with fail
  refine (C1.out _ hBd).mono ?_
  rintro e V0_0 ⟨rfl, hb⟩
  have hC0 : Below Wd0.heap.size Wd0 V0_0 := hb
  clear hb
  go_wp2_with fail
  refine And.intro (fun _ => HS.out _ hC0) ?_
  rw [mov_step]
  simp only [List.getElem?_toArray, List.getElem?_cons_succ, List.getElem?_cons_zero]
  go_wp2_with fail
  refine (C2.out _ (hBd.trans (hC0.mono hBd.size))).mono ?_
  rintro e V0_1 ⟨rfl, hb⟩
  have hC1 : Below Wd0.heap.size Wd0 V0_1 := hC0.trans (hb.mono hC0.size)
  clear hb
  go_wp2_with fail
  refine And.intro (fun _ => HS.out _ hC1) ?_
  rw [mov_step]
  simp only [List.getElem?_toArray, List.getElem?_cons_succ, List.getElem?_cons_zero]
  go_wp2_with fail
  refine And.intro (fun _ => HS.out _ hC1) ?_
  rw [mov_step]
  simp only [List.getElem?_toArray, List.getElem?_cons_succ, List.getElem?_cons_zero]
  go_wp2_with fail
  refine And.intro (fun h => absurd h (by omega)) ?_
  rw [wpMov]
  have hB1 : Below w.heap.size w V0_1 := hBd.trans (hC1.mono hBd.size)
  have X0 := X0.ext hC1
  have X1 := X1.ext hC1
  clear HS hBd hC0 hC1
  go_wp2_with fail
  go_ret
  exact ⟨by simp, hB1⟩
end Go.Proofs.YtlhdiekibkdiaaaDoor
