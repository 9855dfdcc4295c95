/- The walks through tape.Text and through the reference's TapeText. -/
import Derived.Test.YtlhdiekibkdiaaaDoorTCT
import Derived.Test.YtlhdiekibkdiaaaDoorRDG
import Derived.Test.YtlhdiekibkdiaaaDoorRVT
namespace Go.Proofs.YtlhdiekibkdiaaaDoor
set_option maxRecDepth 100000
open Go.RowKit
set_option linter.unusedSimpArgs false
set_option linter.unusedVariables false
theorem itoas_take (l : List Int) (j : Nat) (h : j < l.length) : (l.take (j + 1)).map Lib.itoa = (l.take j).map Lib.itoa ++ [Lib.itoa (l.getD j 0)] := by
  rw [List.take_succ_eq_append_getElem h, List.map_append, List.getD_eq_getElem?_getD, List.getElem?_eq_getElem h]
  rfl
theorem getD_in64 {l : List Int} (h : ∀ n ∈ l, In64 n) (j : Nat) (hj : j < l.length) : In64 (l.getD j 0) := by
  rw [List.getD_eq_getElem?_getD, List.getElem?_eq_getElem hj]
  exact h _ (List.getElem_mem hj)
set_option maxHeartbeats 4000000 in
theorem ttext_any (v : Value) (l : List Int) (w : World) (hP : PowAt w) (h : IntsAt w v l) (hlen : l.length ≤ 1000000000) : Calls Tryd.prog 18 #[v] w fun e w' => e = .returned (.string ⟨(tText l).toArray⟩) ∧ Below w.heap.size w w' := by
  obtain ⟨ad, cap, rfl, hl, hm, hi, hc⟩ := h.form
  unfold maxLen at hm
  obtain ⟨n, hn⟩ : ∃ n, n = l.length := ⟨_, rfl⟩
  have HN := Lib.hid hn
  have HI := Lib.hid hi
  have HP := Lib.hid hP
  have HC := Lib.hid hc
  have e46 : (⟨#[46]⟩ : ByteArray).data.toList = [46] := rfl
  have HTL : Hid ((Lib.join (l.map Lib.itoa) (⟨#[46]⟩ : ByteArray).data.toList).length ≤ 140737488355328) := by
    have := tText_len l hi
    unfold tText at this
    show (Lib.join (l.map Lib.itoa) (⟨#[46]⟩ : ByteArray).data.toList).length ≤ 140737488355328
    rw [e46]
    omega
  have HTT : Hid (tText l = Lib.join (l.map Lib.itoa) (⟨#[46]⟩ : ByteArray).data.toList) := by show _ = _; rw [e46]; rfl
  rw [← hn] at hl hlen ⊢
  clear h hn hi hP hc e46
  go_enter Tryd.func18, Tryd.ntmps18
  go_wp2_with fail
  go_loopw [3, 8] (fun o i wr => ∃ j : Nat, j ≤ n ∧ i = .int .i64 j ∧ Below w.heap.size w wr ∧ Hid (OwnRw StrS 9 wr w.heap.size o ((l.take j).map Lib.itoa))) (fun _ i _ => n - (intOf i).toNat)
  case atStart => exact ⟨0, by omega, rfl, Below.refl _ _, by show OwnRw _ _ _ _ _ _; simpa using OwnRw.nil _ _ _ _⟩
  case round =>
    obtain ⟨j, hj, rfl, hb2, HO⟩ := hrel
    have hzr := hb2.size
    by_cases hlt : j < n
    · have hjl : j < l.length := by rw [← HN.out]; exact hlt
      obtain ⟨b, off, rfl, hbl, hc'⟩ := HC.out (by omega)
      have ga := (hb2.cell (p := ⟨b, off + j, none⟩) hbl).trans (hc' j hjl)
      have p0 : (0 : Int) ≤ (j : Int) := by omega
      have p1 : (j : Int) < (n : Int) := by omega
      have CI := Lib.hid (fun W (hW : Below w.heap.size w W) => itoa_any (l.getD j 0) (getD_in64 HI.out j hjl) W (HP.out.ext hW))
      have HST := Lib.hid (itoas_take l j hjl)
      have hln : ((l.take j).map Lib.itoa).length ≤ 1000000000 := by rw [List.length_map, List.length_take]; omega
      have hol := HO.out.lt
      clear hc'
      generalize Lib.itoa (l.getD j 0) = tx at *
      generalize l.getD j 0 = x at *
      generalize (l.take j).map Lib.itoa = Bj at *
      have HK : Hid ((l.take (j + 1)).map Lib.itoa = Bj ++ [tx]) := HST.out
      clear HST
      go_wp2_with fail
      refine (CI.out _ hb2).mono ?_
      rintro e w3 ⟨rfl, hb3⟩
      have HB3 := Lib.hid hb3
      clear hb3 ga CI
      have h33 := HB3.out.size
      have HBA : Hid (Below wr.heap.size wr (w3.alloc (.cells #[.string ⟨tx.toArray⟩] 9))) := HB3.out.alloc h33 _
      go_wp2_with (at_builtin; refine append_st (B := Bj) (o := ⟨some 16, _, _, _, _, _⟩) (y := tx) rfl _ _ rfl rfl (HO.out.keep StrS.reads HBA.out) rfl (Blk.new _ _ _) rfl hln (by have := HBA.out.size; omega) ?_; intro o6 w6 ho6 hg6 hat6)
      have hB6 : Below w.heap.size w w6 := (hb2.trans (HBA.out.mono hzr)).grown hg6 (by have := HBA.out.size; omega) (fun x hx => (hol x hx).1)
      have HO6 := Lib.hid ho6
      clear ho6 hg6 hat6
      exact ⟨⟨j + 1, by omega, by go_num, hB6, by have := HO6; rw [HK.out]; exact this⟩, by simp [intOf]; omega⟩
    · have hjn : j = l.length := by rw [← HN.out]; omega
      have p1 : ¬ (j : Int) < (n : Int) := by omega
      have h := HO.out
      rw [hjn, List.take_length] at h
      have CJ := Lib.hid (join_rows _ _ _ wr (h.at StrS.reads) ⟨#[46]⟩ (by rw [List.length_map, ← HN.out]; omega) HTL.out)
      obtain ⟨oad, ocap, rfl, _⟩ := h.form
      clear h HO hjn
      generalize l.map Lib.itoa = Ball at *
      go_wp2_with fail
      refine CJ.out.mono ?_
      rintro e w3 ⟨rfl, hb3⟩
      have hB3 := hb2.trans (hb3.mono hzr)
      rw [← HTT.out]
      clear hb3 CJ
      go_wp2_with fail
      go_ret
      exact ⟨rfl, hB3⟩
set_option maxHeartbeats 4000000 in
theorem rttext_any (v : Value) (l : List Int) (w : World) (h : IntsAt w v l) (hlen : l.length ≤ 1000000000) : Calls Tryd.prog 32 #[v] w fun e w' => e = .returned (.string ⟨(tText l).toArray⟩) ∧ Below w.heap.size w w' := by
  obtain ⟨ad, cap, rfl, hl, hm, hi, hc⟩ := h.form
  unfold maxLen at hm
  obtain ⟨n, hn⟩ : ∃ n, n = l.length := ⟨_, rfl⟩
  have HN := Lib.hid hn
  have HI := Lib.hid hi
  have HC := Lib.hid hc
  have HTL := Lib.hid (tText_len l hi)
  rw [← hn] at hl hlen ⊢
  clear h hn hi hc
  go_enter Tryd.func32, Tryd.ntmps32
  go_wp2_with fail
  go_loopw [3, 4] (fun o i wr => ∃ j : Nat, j ≤ n ∧ o = .string ⟨(tText (l.take j)).toArray⟩ ∧ i = .int .i64 j ∧ Below w.heap.size w wr) (fun _ i _ => n - (intOf i).toNat)
  case atStart => exact ⟨0, by omega, rfl, rfl, Below.refl _ _⟩
  case round =>
    obtain ⟨j, hj, rfl, rfl, hb2⟩ := hrel
    have hzr := hb2.size
    by_cases hlt : j < n
    · have hjl : j < l.length := by rw [← HN.out]; exact hlt
      obtain ⟨b, off, rfl, hbl, hc'⟩ := HC.out (by omega)
      have ga := (hb2.cell (p := ⟨b, off + j, none⟩) hbl).trans (hc' j hjl)
      have p0 : (0 : Int) ≤ (j : Int) := by omega
      have p1 : (j : Int) < (n : Int) := by omega
      have CI := Lib.hid (fun W => rdig_any (l.getD j 0) (getD_in64 HI.out j hjl) W)
      have hlj : (tText (l.take j)).length ≤ 100000000000 := by
        have := tText_len (l.take j) (fun n hn => HI.out n (List.mem_of_mem_take hn))
        rw [List.length_take] at this
        omega
      have hlx : (Lib.itoa (l.getD j 0)).length ≤ 20 := itoa_len _ (getD_in64 HI.out j hjl)
      have HST := Lib.hid (itoas_take l j hjl)
      clear hc'
      by_cases hj0 : j = 0
      · subst hj0
        have e0 : tText (l.take 0) = [] := by simp [tText, Lib.join_nil]
        rw [e0]
        have HJ2 : Hid (tText (l.take (0 + 1)) = Lib.itoa (l.getD 0 0)) := by
          show _ = _
          unfold tText
          rw [HST.out]
          simp [Lib.join_one]
        clear hlj
        generalize Lib.itoa (l.getD 0 0) = tx at *
        generalize l.getD 0 0 = x at *
        simp only [Nat.add_zero] at ga
        go_wp2_with fail
        refine (CI.out _).mono ?_
        rintro e w3 ⟨rfl, hb3⟩
        have hB3 : Below w.heap.size w w3 := hb2.trans (hb3.mono hzr)
        clear hb3 ga CI
        go_wp2_with fail
        refine ⟨⟨0 + 1, by omega, by rw [HJ2.out]; show Value.string ((⟨[].toArray⟩ : ByteArray) ++ ⟨tx.toArray⟩) = _; rw [ba_app]; rfl, by go_num, hB3⟩, by simp [intOf]; omega⟩
      · have p2 : (0 : Int) < (j : Int) := by omega
        have HJ2 : Hid (tText (l.take (j + 1)) = tText (l.take j) ++ 46 :: Lib.itoa (l.getD j 0)) := by
          show _ = _
          unfold tText
          rw [HST.out, join_snoc _ _ _ (by rw [← List.length_pos_iff, List.length_map, List.length_take]; omega)]; simp
        generalize Lib.itoa (l.getD j 0) = tx at *
        generalize l.getD j 0 = x at *
        generalize tText (l.take j) = tj at *
        go_wp2_with fail
        refine (CI.out _).mono ?_
        rintro e w3 ⟨rfl, hb3⟩
        have hB3 : Below w.heap.size w w3 := hb2.trans (hb3.mono hzr)
        clear hb3 ga CI
        go_wp2_with fail
        refine ⟨⟨j + 1, by omega, by rw [HJ2.out]; show Value.string ((⟨tj.toArray⟩ : ByteArray) ++ ⟨[46].toArray⟩ ++ ⟨tx.toArray⟩) = _; rw [ba_app, ba_app]; simp, by go_num, hB3⟩, by simp [intOf]; omega⟩
    · have hjn : j = l.length := by rw [← HN.out]; omega
      have p1 : ¬ (j : Int) < (n : Int) := by omega
      rw [hjn, List.take_length]
      have hj' : j = n := by omega
      clear hlt
      go_wp2_with fail
      go_ret
      exact ⟨rfl, hb2⟩
end Go.Proofs.YtlhdiekibkdiaaaDoor
