/- The walk through val.Text. -/
import Derived.Test.YtlhdiekibkdiaaaDoorTXS
import Derived.Test.YtlhdiekibkdiaaaDoorGNS
import Derived.Test.YtlhdiekibkdiaaaDoorPWt
import Derived.Deep.DeepCutAuto
namespace Go.Proofs.YtlhdiekibkdiaaaDoor
set_option maxRecDepth 100000
open Go.RowKit
set_option linter.unusedSimpArgs false
set_option linter.unusedVariables false
/-- A string's cell. -/
def StrS (w : World) (S : Nat → Prop) (v : Value) (x : List UInt8) : Prop := v = .string ⟨x.toArray⟩
theorem StrS.reads : Reads StrS := ⟨fun h _ _ => h, fun h => by rw [h]; rfl⟩
theorem info_string : (Tryd.prog.info? 9).map (fun i => (i.zero, i.size, i.bytes)) = some (some (.string ByteArray.empty), 1, 16) := by kernel_rfl
/-- One more string. -/
theorem append_st {w : World} {ops : Array Oper} {rest : List Oper} {o : Oper} {a : Act} {Q : Exit → Act → World → Prop} (hgd : o.guard = none) (s x : Operand)
    (ho : o.op = .call { callee := .builtin .append, args := #[s, x], argTypes := #[81, 81] })
    {base : Nat} {v : Value} {B : List (List UInt8)} (hs : a.eval s = v) (hown : OwnRw StrS 9 w base v B)
    {bs cap : Nat} {u : Value} {te : TypeId} {y : List UInt8} (hx : a.eval x = .slice (some ⟨bs, 0, none⟩) 1 cap) (hsrc : Blk w bs #[u] te) (hy : u = .string ⟨y.toArray⟩) (hbytes : B.length ≤ 1000000000) (hbase : base ≤ w.heap.size)
    (h : ∀ v' w', OwnRw StrS 9 w' base v' (B ++ [y]) → w.grownBy w' v.ownBlock → (v'.ownBlock = v.ownBlock ∨ v'.ownBlock = some w.heap.size) → wpList Tryd.prog ops Q rest (a.put o.dst v') w') : wpList Tryd.prog ops Q (o :: rest) a w := by
  obtain ⟨ds, hd, hdc⟩ := hown
  refine wpl_append_at hgd s x 81 ho base 9 Tryd.underlying81 info_string rfl (by decide) hs hd hx (.inr ⟨⟨bs, 0, none⟩, cap, rfl, World.news_of_block hsrc⟩) (by simp) (fun z hz => (show z = u by simpa using hz) ▸ StrS.reads.one (w := w) (S := fun _ => True) hy) (by unfold maxLen; omega) (by omega) hbase ?_
  intro v' w' h1 h2 _ h4
  exact h v' w' (OwnRw.push StrS.reads hd hdc h1 h2 h4 hy) h2 h4
theorem ba_app (a b : List UInt8) : ((⟨a.toArray⟩ : ByteArray) ++ ⟨b.toArray⟩) = ⟨(a ++ b).toArray⟩ := by
  apply ByteArray.ext
  simp [ByteArray.data_append]
theorem texts_len (s : List VT) : (VT.texts s).length = s.length := by rw [VT.texts_map]; simp
theorem texts_take (s : List VT) (j : Nat) (h : j < s.length) : VT.texts (s.take (j + 1)) = VT.texts (s.take j) ++ [VT.text s[j]] := by
  rw [List.take_add_one, List.getElem?_eq_getElem h, VT.texts_map, VT.texts_map, List.map_append]
  simp
theorem join_mem_le (sep : List UInt8) : ∀ (l : List (List UInt8)), ∀ x ∈ l, x.length ≤ (Lib.join l sep).length := by
  have tl : ∀ (l : List (List UInt8)), ∀ x ∈ l, x.length ≤ (Lib.joinTail sep l).length := by
    intro l
    induction l with
    | nil => intro x hx; simp at hx
    | cons y l ih =>
      intro x hx
      rcases List.mem_cons.1 hx with rfl | hx
      · simp [Lib.joinTail]; omega
      · have := ih x hx
        simp only [Lib.joinTail, List.map_cons, List.flatten_cons, List.length_append] at this ⊢
        omega
  intro l x hx
  cases l with
  | nil => simp at hx
  | cons y l =>
    rw [Lib.join_cons, List.length_append]
    rcases List.mem_cons.1 hx with rfl | hx
    · omega
    · have := tl l x hx; omega
theorem join_rows (v : Value) (B : List (List UInt8)) (S : Nat → Prop) (w : World) (h : RwAt StrS w S v B) (sep : ByteArray) (hN : B.length ≤ 140737488355328) (hlen : (Lib.join B sep.data.toList).length ≤ 140737488355328) :
    Calls Tryd.prog 47 #[v, .string sep] w fun e w' => e = .returned (.string ⟨(Lib.join B sep.data.toList).toArray⟩) ∧ Below w.heap.size w w' := by
  obtain ⟨ad, cap, rfl, h1, h2, h3, h4⟩ := h
  cases B with
  | nil => exact (join_none ad cap sep w).mono fun e w' ⟨he, hw⟩ => ⟨he, hw ▸ Below.refl _ _⟩
  | cons b B =>
    obtain ⟨bl, off, rfl, hlt, _, hc⟩ := h4 (by simp)
    have em : ((b :: B).map (fun l => (⟨l.toArray⟩ : ByteArray))).map (·.data.toList) = b :: B := by rw [List.map_map]; exact List.map_id' _
    have el : ((b :: B).map (fun l => (⟨l.toArray⟩ : ByteArray))).length = (b :: B).length := List.length_map _
    have := join_any bl off cap ((b :: B).map (fun l => (⟨l.toArray⟩ : ByteArray))) sep w (fun j x hx => by
      have hj : j < (b :: B).length := by have := (List.getElem?_eq_some_iff.1 hx).1; rw [el] at this; exact this
      obtain ⟨u, hu, hR⟩ := hc j hj
      rw [List.getElem?_map, List.getElem?_eq_getElem hj] at hx
      rw [hu, hR, ← Option.some.inj hx]) hlt (by rw [el]; exact hN) (by rw [el]; exact h1) (by rw [em]; exact hlen)
    rw [em, el] at this
    exact this
set_option maxHeartbeats 4000000 in
theorem text_any (t : VT) : ∀ (v : Value) (w : World), PowAt w → ValAt w v t → (VT.text t).length ≤ 140737488355328 → VT.wt t ≤ 1000000000 → Calls Tryd.prog 26 #[v] w fun e w' => e = .returned (.string ⟨(VT.text t).toArray⟩) ∧ Below w.heap.size w w' := by
  induction t using VT.ind with
  | h l n s ih =>
    intro v w hP hv hlen hwt
    obtain ⟨l', n', s', ad, cap, hmk, rfl, hn, hl, hm, hs⟩ := hv.form
    obtain ⟨rfl, rfl, rfl⟩ := VT.mk.inj hmk
    clear hv hmk
    have IH := Lib.hid ih
    have HP := Lib.hid hP
    clear ih hP
    cases l with
    | false =>
      have HT : Hid (VT.text (.mk false n s) = Lib.itoa n) := by show _ = _; simp [VT.text]
      rw [HT.out] at hlen ⊢
      have CI := Lib.hid (fun W (h : Below w.heap.size w W) => itoa_any n hn W (HP.out.ext h))
      clear hs hlen hwt HT
      go_enter Tryd.func26, Tryd.ntmps26
      go_wp2_with fail
      refine (CI.out _ (by repeat (first | with_reducible assumption | with_reducible exact Below.refl _ _ | with_reducible apply Below.drew | (with_reducible refine Below.alloc ?_ (by first | omega | (simp only [zA, zS, zD, zN]; omega) | (dsimp only; omega) | (simp only [zA, zS, zD, zN]; dsimp only; omega)) _) | (with_reducible refine Below.setCell ?_ (by first | omega | (simp only [zA, zS, zD, zN]; omega) | (dsimp only; omega) | (simp only [zA, zS, zD, zN]; dsimp only; omega)) _) | (with_reducible apply below_drewN)))).mono ?_
      rintro e w1 ⟨rfl, hb1⟩
      have hB1 : Below w.heap.size w w1 := Below.trans (by repeat (first | with_reducible assumption | with_reducible exact Below.refl _ _ | with_reducible apply Below.drew | (with_reducible refine Below.alloc ?_ (by first | omega | (simp only [zA, zS, zD, zN]; omega) | (dsimp only; omega) | (simp only [zA, zS, zD, zN]; dsimp only; omega)) _) | (with_reducible refine Below.setCell ?_ (by first | omega | (simp only [zA, zS, zD, zN]; omega) | (dsimp only; omega) | (simp only [zA, zS, zD, zN]; dsimp only; omega)) _) | (with_reducible apply below_drewN))) (hb1.mono (by first | omega | (simp only [zA, zS, zD, zN]; omega) | (dsimp only; omega) | (simp only [zA, zS, zD, zN]; dsimp only; omega)))
      clear hb1
      go_wp2_with fail
      go_ret
      exact ⟨rfl, hB1⟩
    | true =>
      have HT : Hid (VT.text (.mk true n s) = 40 :: (Lib.join (VT.texts s) [32] ++ [41])) := by show _ = _; simp [VT.text]
      rw [HT.out] at hlen ⊢
      have hlen2 : (Lib.join (VT.texts s) [32]).length ≤ 140737488355326 := by simp only [List.length_cons, List.length_append] at hlen; simp at hlen; omega
      have hwl : VT.wtL s ≤ 1000000000 := by simp only [VT.wt] at hwt; omega
      have HJ := Lib.hid hlen2
      have HW := Lib.hid hwl
      have hsl : s.length ≤ 1000000000 := by
        have : ∀ t : List VT, t.length ≤ VT.wtL t := by
          intro t
          induction t with
          | nil => simp
          | cons x t ih => obtain ⟨a, b, c⟩ := x; simp only [VT.wtL, VT.wt, List.length_cons]; omega
        have := this s
        omega
      clear hlen hwt hlen2 hwl HT
      obtain ⟨sn, hsn⟩ : ∃ m, m = s.length := ⟨_, rfl⟩
      rw [← hsn] at hl hsl ⊢
      have HSN := Lib.hid hsn
      clear hsn
      go_enter Tryd.func26, Tryd.ntmps26
      go_wp2_with fail
      generalize hWW : w.alloc (.cells #[.bool true, .int .i64 n, .slice ad sn cap] 34) = W0
      have hB0 : Below w.heap.size w W0 := by rw [← hWW]; repeat (first | with_reducible assumption | with_reducible exact Below.refl _ _ | with_reducible apply Below.drew | (with_reducible refine Below.alloc ?_ (by first | omega | (simp only [zA, zS, zD, zN]; omega) | (dsimp only; omega) | (simp only [zA, zS, zD, zN]; dsimp only; omega)) _) | (with_reducible refine Below.setCell ?_ (by first | omega | (simp only [zA, zS, zD, zN]; omega) | (dsimp only; omega) | (simp only [zA, zS, zD, zN]; dsimp only; omega)) _) | (with_reducible apply below_drewN))
      have hs1 := hs.ext hB0
      clear hs hWW
      go_loopw [3, 15] (fun o i wr => ∃ j : Nat, j ≤ sn ∧ i = .int .i64 j ∧ Below W0.heap.size W0 wr ∧ Hid (OwnRw StrS 9 wr W0.heap.size o (VT.texts (s.take j)))) (fun _ i _ => sn - (intOf i).toNat)
      case atStart => exact ⟨0, by omega, rfl, Below.refl _ _, by show OwnRw _ _ _ _ _ _; simpa [VT.texts] using OwnRw.nil _ _ _ _⟩
      case round =>
        obtain ⟨j, hj, rfl, hb2, HO⟩ := hrel
        have hzr := hb2.size
        have hz0 := hB0.size
        have hBr : Below w.heap.size w wr := hB0.trans (hb2.mono hB0.size)
        by_cases hlt : j < sn
        · have p0 : (0 : Int) ≤ (j : Int) := by omega
          have p1 : (j : Int) < (sn : Int) := by omega
          have hjs : j < s.length := by rw [← HSN.out]; exact hlt
          obtain ⟨bl, off, rfl, hlt1, hc⟩ := (hs1.ext hb2).at' (by omega)
          obtain ⟨l2, n2, ad2, t2, cap2, c0, c1, c2, hg2⟩ := hc j hjs
          have HG2 := Lib.hid hg2
          have hml : (VT.text s[j]).length ≤ 140737488355328 := by
            have := join_mem_le [32] (VT.texts s) (VT.text s[j]) (by rw [VT.texts_map]; exact List.mem_map_of_mem (List.getElem_mem hjs))
            have := HJ.out
            omega
          have hmw : VT.wt s[j] ≤ 1000000000 := by
            have : ∀ (t : List VT), ∀ x ∈ t, VT.wt x ≤ VT.wtL t := by
              intro t
              induction t with
              | nil => intro x hx; simp at hx
              | cons y t ih =>
                intro x hx
                rcases List.mem_cons.1 hx with rfl | hx
                · simp only [VT.wtL]; omega
                · have := ih x hx; simp only [VT.wtL]; omega
            have := this s s[j] (List.getElem_mem hjs)
            have := HW.out
            omega
          have CK : Hid (∀ W, Below wr.heap.size wr W → Calls Tryd.prog 26 #[.agg #[.bool l2, .int .i64 n2, .slice ad2 t2 cap2]] W fun e w' => e = .returned (.string ⟨(VT.text s[j]).toArray⟩) ∧ Below W.heap.size W w') := fun W hW => IH.out s[j] (List.getElem_mem hjs) (.agg #[.bool l2, .int .i64 n2, .slice ad2 t2 cap2]) W (HP.out.ext (hBr.trans (hW.mono hBr.size))) (HG2.out.ext hW) hml hmw
          have HST := Lib.hid (texts_take s j hjs)
          have hln : (VT.texts (s.take j)).length ≤ 1000000000 := by rw [texts_len, List.length_take]; omega
          clear hc hs1 hg2 hml hmw
          have hol := HO.out.lt
          go_wp2_with fail
          refine (CK.out _ (by repeat (first | with_reducible assumption | with_reducible exact Below.refl _ _ | with_reducible apply Below.drew | (with_reducible refine Below.alloc ?_ (by first | omega | (simp only [zA, zS, zD, zN]; omega) | (dsimp only; omega) | (simp only [zA, zS, zD, zN]; dsimp only; omega)) _) | (with_reducible refine Below.setCell ?_ (by first | omega | (simp only [zA, zS, zD, zN]; omega) | (dsimp only; omega) | (simp only [zA, zS, zD, zN]; dsimp only; omega)) _) | (with_reducible apply below_drewN)))).mono ?_
          rintro e w3 ⟨rfl, hb3⟩
          have HB3 := Lib.hid (Below.trans (show Below wr.heap.size wr _ by repeat (first | with_reducible assumption | with_reducible exact Below.refl _ _ | with_reducible apply Below.drew | (with_reducible refine Below.alloc ?_ (by first | omega | (simp only [zA, zS, zD, zN]; omega) | (dsimp only; omega) | (simp only [zA, zS, zD, zN]; dsimp only; omega)) _) | (with_reducible refine Below.setCell ?_ (by first | omega | (simp only [zA, zS, zD, zN]; omega) | (dsimp only; omega) | (simp only [zA, zS, zD, zN]; dsimp only; omega)) _) | (with_reducible apply below_drewN))) (hb3.mono (by first | omega | (simp only [zA, zS, zD, zN]; omega) | (dsimp only; omega) | (simp only [zA, zS, zD, zN]; dsimp only; omega))))
          clear hb3 c0 c1 c2 CK
          generalize VT.text s[j] = tx at *
          have h33 := HB3.out.size
          have HBA : Hid (Below wr.heap.size wr (w3.alloc (.cells #[.string ⟨tx.toArray⟩] 9))) := HB3.out.alloc h33 _
          go_wp2_with (at_builtin; refine append_st (B := VT.texts (s.take j)) (o := ⟨some 23, _, _, _, _, _⟩) (y := tx) rfl _ _ rfl rfl (HO.out.keep StrS.reads HBA.out) rfl (Blk.new _ _ _) rfl hln (by have := HBA.out.size; omega) ?_; intro o6 w6 ho6 hg6 hat6)
          have hB6 : Below W0.heap.size W0 w6 := (hb2.trans (HBA.out.mono hzr)).grown hg6 (by have := HBA.out.size; omega) (fun x hx => (hol x hx).1)
          have HO6 : Hid (OwnRw StrS 9 w6 W0.heap.size o6 (VT.texts (s.take (j + 1)))) := by show OwnRw _ _ _ _ _ _; rw [HST.out]; exact ho6
          clear ho6 hg6 hat6
          exact ⟨⟨j + 1, by omega, by go_num, hB6, HO6⟩, by simp [intOf]; omega⟩
        · have hjn : j = s.length := by rw [← HSN.out]; omega
          have p1 : ¬ (j : Int) < (sn : Int) := by omega
          have h := HO.out
          rw [hjn, List.take_length] at h
          have CJ := Lib.hid (join_rows _ _ _ wr (h.at StrS.reads) ⟨#[32]⟩ (by rw [texts_len, ← HSN.out]; omega) (by have := HJ.out; show (Lib.join (VT.texts s) [32]).length ≤ _; omega))
          obtain ⟨oad, ocap, rfl, _⟩ := h.form
          clear h HO hjn
          go_wp2_with fail
          refine CJ.out.mono ?_
          rintro e w3 ⟨rfl, hb3⟩
          have hB3 := hBr.trans (hb3.mono hBr.size)
          have k0 := HJ.out
          have k1 : ¬ 9223372036854775807 < 1 + (Lib.join (VT.texts s) [32]).length := by omega
          have k2 : ¬ 9223372036854775807 < 1 + (Lib.join (VT.texts s) [32]).length + 1 := by omega
          clear hb3 CJ k0
          go_wp2_with fail
          go_ret
          refine ⟨?_, hB3⟩
          show Ending.returned (.string ((⟨[40].toArray⟩ : ByteArray) ++ ⟨(Lib.join (VT.texts s) [32]).toArray⟩ ++ ⟨[41].toArray⟩)) = _
          rw [ba_app, ba_app, List.append_assoc]
          rfl
end Go.Proofs.YtlhdiekibkdiaaaDoor
