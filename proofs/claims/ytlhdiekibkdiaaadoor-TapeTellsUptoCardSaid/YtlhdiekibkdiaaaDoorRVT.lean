/- The walk through the reference's text of a value. -/
import Derived.Test.YtlhdiekibkdiaaaDoorRDG
import Derived.Test.YtlhdiekibkdiaaaDoorVTX
namespace Go.Proofs.YtlhdiekibkdiaaaDoor
set_option maxRecDepth 100000
open Go.RowKit
set_option linter.unusedSimpArgs false
set_option linter.unusedVariables false
theorem join_snoc (A : List (List UInt8)) (x sep : List UInt8) (h : A ≠ []) : Lib.join (A ++ [x]) sep = Lib.join A sep ++ (sep ++ x) := by
  cases A with
  | nil => exact absurd rfl h
  | cons a A => rw [List.cons_append, Lib.join_cons, Lib.join_cons, Lib.joinTail, Lib.joinTail, List.map_append, List.flatten_append]; simp
theorem join_take_le (sep : List UInt8) (l : List (List UInt8)) (j : Nat) : (Lib.join (l.take j) sep).length ≤ (Lib.join l sep).length := by
  cases l with
  | nil => simp
  | cons a l =>
    cases j with
    | zero => simp [Lib.join_nil]
    | succ j =>
      rw [List.take_succ_cons, Lib.join_cons, Lib.join_cons, List.length_append, List.length_append]
      have : ∀ (l : List (List UInt8)) (j : Nat), (Lib.joinTail sep (l.take j)).length ≤ (Lib.joinTail sep l).length := by
        intro l
        induction l with
        | nil => intro j; simp [Lib.joinTail]
        | cons b l ih =>
          intro j
          cases j with
          | zero => simp [Lib.joinTail]
          | succ j => have := ih j; simp only [Lib.joinTail, List.take_succ_cons, List.map_cons, List.flatten_cons, List.length_append] at this ⊢; omega
      have := this l j
      omega
theorem texts_take_eq (s : List VT) (j : Nat) : VT.texts (s.take j) = (VT.texts s).take j := by rw [VT.texts_map, VT.texts_map, List.map_take]
set_option maxHeartbeats 4000000 in
theorem rvtext_any (t : VT) : ∀ (v : Value) (w : World), ValAt w v t → (VT.text t).length ≤ 140737488355328 → Calls Tryd.prog 27 #[v] w fun e w' => e = .returned (.string ⟨(VT.text t).toArray⟩) ∧ Below w.heap.size w w' := by
  induction t using VT.ind with
  | h l n s ih =>
    intro v w hv hlen
    obtain ⟨l', n', s', ad, cap, hmk, rfl, hn, hl, hm, hs⟩ := hv.form
    obtain ⟨rfl, rfl, rfl⟩ := VT.mk.inj hmk
    clear hv hmk
    have IH := Lib.hid ih
    clear ih
    cases l with
    | false =>
      have HT : Hid (VT.text (.mk false n s) = Lib.itoa n) := by show _ = _; simp [VT.text]
      rw [HT.out] at hlen ⊢
      have CI := Lib.hid (fun W => rdig_any n hn W)
      clear hs hlen HT
      go_enter Tryd.func27, Tryd.ntmps27
      go_wp2_with fail
      refine (CI.out _).mono ?_
      rintro e w1 ⟨rfl, hb1⟩
      have hB1 : Below w.heap.size w w1 := Below.trans (by repeat (first | with_reducible assumption | with_reducible exact Below.refl _ _ | with_reducible apply Below.drew | (with_reducible refine Below.alloc ?_ (by first | omega | (simp only [zA, zS, zD, zN]; omega) | (dsimp only; omega) | (simp only [zA, zS, zD, zN]; dsimp only; omega)) _) | (with_reducible refine Below.setCell ?_ (by first | omega | (simp only [zA, zS, zD, zN]; omega) | (dsimp only; omega) | (simp only [zA, zS, zD, zN]; dsimp only; omega)) _) | (with_reducible apply below_drewN))) (hb1.mono (by first | omega | (simp only [zA, zS, zD, zN]; omega) | (dsimp only; omega) | (simp only [zA, zS, zD, zN]; dsimp only; omega)))
      clear hb1
      go_wp2_with fail
      go_ret
      exact ⟨rfl, hB1⟩
    | true =>
      have HT : Hid (VT.text (.mk true n s) = 40 :: (Lib.join (VT.texts s) [32] ++ [41])) := by show _ = _; simp [VT.text]
      rw [HT.out] at hlen ⊢
      have hlen2 : (Lib.join (VT.texts s) [32]).length ≤ 140737488355326 := by simp only [List.length_cons, List.length_append] at hlen; simp at hlen; omega
      have HJ := Lib.hid hlen2
      clear hlen hlen2 HT
      obtain ⟨sn, hsn⟩ : ∃ m, m = s.length := ⟨_, rfl⟩
      rw [← hsn] at hl ⊢
      have HSN := Lib.hid hsn
      clear hsn
      go_enter Tryd.func27, Tryd.ntmps27
      go_wp2_with fail
      generalize hWW : w.alloc (.cells #[.bool true, .int .i64 n, .slice ad sn cap] 34) = W0
      have hB0 : Below w.heap.size w W0 := by rw [← hWW]; repeat (first | with_reducible assumption | with_reducible exact Below.refl _ _ | with_reducible apply Below.drew | (with_reducible refine Below.alloc ?_ (by first | omega | (simp only [zA, zS, zD, zN]; omega) | (dsimp only; omega) | (simp only [zA, zS, zD, zN]; dsimp only; omega)) _) | (with_reducible refine Below.setCell ?_ (by first | omega | (simp only [zA, zS, zD, zN]; omega) | (dsimp only; omega) | (simp only [zA, zS, zD, zN]; dsimp only; omega)) _) | (with_reducible apply below_drewN))
      have X0 : Blk W0 w.heap.size #[.bool true, .int .i64 n, .slice ad sn cap] 34 := by rw [← hWW]; exact Blk.new _ _ _
      have hs1 := hs.ext hB0
      clear hs hWW
      go_loopw [3, 4] (fun o i wr => ∃ j : Nat, j ≤ sn ∧ o = .string ⟨(40 :: Lib.join (VT.texts (s.take j)) [32]).toArray⟩ ∧ i = .int .i64 j ∧ Below W0.heap.size W0 wr) (fun _ i _ => sn - (intOf i).toNat)
      case atStart => exact ⟨0, by omega, rfl, rfl, Below.refl _ _⟩
      case round =>
        obtain ⟨j, hj, rfl, rfl, hb2⟩ := hrel
        have hzr := hb2.size
        have hz0 := hB0.size
        have hBr : Below w.heap.size w wr := hB0.trans (hb2.mono hB0.size)
        have XR := X0.ext hb2
        have f0 := XR.cell 0
        have f1 := XR.cell 1
        have f2 := XR.cell 2
        simp only [List.getElem?_toArray, List.getElem?_cons_succ, List.getElem?_cons_zero] at f0 f1 f2
        by_cases hlt : j < sn
        · have p0 : (0 : Int) ≤ (j : Int) := by omega
          have p1 : (j : Int) < (sn : Int) := by omega
          have hjs : j < s.length := by rw [← HSN.out]; exact hlt
          obtain ⟨bl, off, rfl, hlt1, hc⟩ := (hs1.ext hb2).at' (by omega)
          obtain ⟨l2, n2, ad2, t2, cap2, c0, c1, c2, hg2⟩ := hc j hjs
          have HG2 := Lib.hid hg2
          have hml : (VT.text s[j]).length ≤ 140737488355328 := by
            have := join_mem_le [32] (VT.texts s) (VT.text s[j]) (by rw [VT.texts_map]; exact List.mem_map_of_mem (List.getElem_mem hjs))
            have := HJ.out
            omega
          have CK : Hid (∀ W, Below wr.heap.size wr W → Calls Tryd.prog 27 #[.agg #[.bool l2, .int .i64 n2, .slice ad2 t2 cap2]] W fun e w' => e = .returned (.string ⟨(VT.text s[j]).toArray⟩) ∧ Below W.heap.size W w') := fun W hW => IH.out s[j] (List.getElem_mem hjs) (.agg #[.bool l2, .int .i64 n2, .slice ad2 t2 cap2]) W (HG2.out.ext hW) hml
          have hlj : (Lib.join (VT.texts (s.take j)) [32]).length ≤ 140737488355326 := by
            rw [texts_take_eq]
            have := join_take_le [32] (VT.texts s) j
            have := HJ.out
            omega
          clear hc hs1 hg2
          by_cases hj0 : j = 0
          ·
            subst hj0
            have e0 : Lib.join (VT.texts (s.take 0)) [32] = [] := by simp [VT.texts, Lib.join_nil]
            rw [e0]
            simp only [Nat.zero_mul, Nat.add_zero] at c0 c1 c2
            have HJ2 : Hid (Lib.join (VT.texts (s.take (0 + 1))) [32] = VT.text s[0]) := by
              show _ = _
              rw [texts_take s 0 hjs]
              simp [VT.texts, Lib.join_one]
            have CK2 := Lib.hid CK.out
            clear CK
            generalize VT.text s[0] = tx at *
            go_wp2_with fail
            refine (CK2.out _ (Below.refl _ _)).mono ?_
            rintro e w3 ⟨rfl, hb3⟩
            have hB3 : Below W0.heap.size W0 w3 := hb2.trans (hb3.mono hb2.size)
            clear hb3 c0 c1 c2 f0 f1 f2 CK2
            go_wp2_with fail
            refine ⟨⟨0 + 1, by omega, by rw [HJ2.out]; show Value.string ((⟨[40].toArray⟩ : ByteArray) ++ ⟨tx.toArray⟩) = _; rw [ba_app]; rfl, by go_num, hB3⟩, by simp [intOf]; omega⟩

          · have p2 : (0 : Int) < (j : Int) := by omega
            have HJ2 : Hid (Lib.join (VT.texts (s.take (j + 1))) [32] = Lib.join (VT.texts (s.take j)) [32] ++ 32 :: VT.text s[j]) := by
              show _ = _
              rw [texts_take s j hjs]
              rw [join_snoc _ _ _ (by rw [← List.length_pos_iff, texts_len, List.length_take]; omega)]; simp
            have CK2 := Lib.hid CK.out
            clear CK
            generalize VT.text s[j] = tx at *
            generalize Lib.join (VT.texts (s.take j)) [32] = tj at *
            go_wp2_with fail
            refine (CK2.out _ (Below.refl _ _)).mono ?_
            rintro e w3 ⟨rfl, hb3⟩
            have hB3 : Below W0.heap.size W0 w3 := hb2.trans (hb3.mono hb2.size)
            clear hb3 c0 c1 c2 f0 f1 f2 CK2
            go_wp2_with fail
            refine ⟨⟨j + 1, by omega, by rw [HJ2.out]; show Value.string ((⟨(40 :: tj).toArray⟩ : ByteArray) ++ ⟨[32].toArray⟩ ++ ⟨tx.toArray⟩) = _; rw [ba_app, ba_app]; simp, by go_num, hB3⟩, by simp [intOf]; omega⟩

        · have hjn : j = s.length := by rw [← HSN.out]; omega
          have p1 : ¬ (j : Int) < (sn : Int) := by omega
          rw [hjn, List.take_length]
          have k0 := HJ.out
          have hj' : j = sn := by omega
          clear hlt
          obtain ⟨tj, htj⟩ : ∃ tj, tj = Lib.join (VT.texts s) [32] := ⟨_, rfl⟩
          have HTJ := Lib.hid htj
          rw [← htj] at k0 ⊢
          clear htj
          go_wp2_with fail
          go_ret
          refine ⟨?_, hBr⟩
          show Ending.returned (.string ((⟨(40 :: tj).toArray⟩ : ByteArray) ++ ⟨[41].toArray⟩)) = _
          rw [ba_app, ← HTJ.out]
          rfl
end Go.Proofs.YtlhdiekibkdiaaaDoor
