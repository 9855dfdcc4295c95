/- The walk through the reader of values. -/
import Derived.Test.YtlhdiekibkdiaaaDoorTXS
import Derived.Test.YtlhdiekibkdiaaaDoorMAD
import Derived.Test.YtlhdiekibkdiaaaDoorGNS
import Derived.Deep.DeepCutAuto
import Derived.Deep.LoopGhost
import Derived.Defers
import Derived.Lib.AtoiAllCases
namespace Go.Proofs.YtlhdiekibkdiaaaDoor
set_option maxRecDepth 100000
open Go.RowKit
set_option linter.unusedSimpArgs false
set_option linter.unusedVariables false
/-- What strings.IndexAny tells at " )". -/
def IdxAny : Prop := ∀ (s : ByteArray) (w : World), s.size < 4294967281 →
    Calls Tryd.prog 73 #[.string s, .string ⟨#[32, 41]⟩] w fun e w' => e = .returned (.int .i64 (Lib.indexAny s.data.toList [32, 41])) ∧ Below w.heap.size w w'
theorem dec_deep (pb p1 : Nat) (sv : Value) (d : Int) (w : World) (h1 : Blk w p1 #[.pointer (some ⟨pb, 0, none⟩)] 87) (hb : Blk w pb #[sv, .int .i64 d] 89) (hd : -9000 ≤ d) (hd2 : d ≤ 9000) :
    CallsD Tryd.prog 74 #[.pointer (some ⟨p1, 0, none⟩)] .returning w fun e u' w' => u' = .returning ∧ (e = .returned (.tuple #[]) ∧ w' = w.setCell ⟨pb, 1, none⟩ (.int .i64 (d - 1))) := by
  have c1 : w.cell? ⟨p1, 0, none⟩ = some (.pointer (some ⟨pb, 0, none⟩)) := h1.cell 0
  have c2 : w.cell? ⟨pb, 1, none⟩ = some (.int .i64 d) := hb.cell 1
  have u2 := hb.unfrozen 1
  go_enter_d Tryd.func74, Tryd.ntmps74
  go_wp2_with fail
  go_end0
  exact ⟨rfl, rfl⟩
theorem grown_of {w w' : World} {r : Option Nat} (h : Below w.heap.size w w') : w.grownBy w' r := ⟨h.os, h.tape, h.output, h.size, fun k hk _ => h.block k hk⟩
/-- What the reader hands back reads as a value; it stands behind it; but for the reader itself what was there is as it was. -/
def RdR (pb : Nat) (w : World) (D : Int) (r : VT × Bool × List UInt8) (e : Ending) (w' : World) : Prop :=
  (∃ v, e = .returned (.tuple #[v, .bool r.2.1]) ∧ ValIn (fun b => w.heap.size ≤ b) w' v r.1) ∧ Blk w' pb #[.string ⟨r.2.2.toArray⟩, .int .i64 D] 89 ∧ w.grownBy w' (some pb)
theorem grown_drew {w w' : World} {r : Option Nat} (h : w.grownBy w' r) : w.grownBy w'.drew r := ⟨h.os, h.tape, h.output, h.size, h.block⟩
theorem grown_set {w w' : World} {pb : Nat} (h : w.grownBy w' (some pb)) (b : Nat) (j : Nat) (v : Value) (hb : b = pb ∨ w.heap.size ≤ b) : w.grownBy (w'.setCell ⟨b, j, none⟩ v) (some pb) := by
  refine ⟨h.os, h.tape, h.output, by rw [size_setCell]; exact h.size, fun k hk hne => ?_⟩
  have e : k ≠ b := fun e => by
    rcases hb with rfl | hb
    · exact hne (by rw [e])
    · omega
  exact (Below.heap_setCell w' ⟨b, j, none⟩ v k e).trans (h.block k hk hne)
theorem grown_trans {w w1 w2 : World} {r : Option Nat} (h : w.grownBy w1 r) (k : w1.grownBy w2 r) : w.grownBy w2 r :=
  ⟨k.os.trans h.os, k.tape.trans h.tape, k.output.trans h.output, Nat.le_trans h.size k.size, fun b hb hn => (k.block b (Nat.lt_of_lt_of_le hb h.size) hn).trans (h.block b hb hn)⟩
theorem grown_alloc {w w' : World} {r : Option Nat} (h : w.grownBy w' r) (o : Obj) : w.grownBy (w'.alloc o) r :=
  grown_trans h (grown_of ((Below.refl _ _).alloc (Nat.le_refl _) o))
theorem Blk.ne {w : World} {b c : Nat} {cs : Array Value} {t : TypeId} {v u : Value} (h : Blk w b cs t) (h0 : cs[0]? = some v) (hc : w.cell? ⟨c, 0, none⟩ = some u) (hne : u ≠ v) : c ≠ b := by
  intro e
  subst e
  rw [h.cell 0, h0] at hc
  exact hne (Option.some.inj hc).symm
theorem NumErrsAt.grown {w w' : World} {pb : Nat} {sv' : ByteArray} {x : Value} {t : TypeId} (h : NumErrsAt w) (hb : Blk w pb #[.string sv', x] t) (hg : w.grownBy w' (some pb)) : NumErrsAt w' := by
  obtain ⟨⟨t1, p1, h1⟩, ⟨t2, p2, h2⟩⟩ := h
  have k : ∀ {c : Nat} {t : TypeId} {p : Value}, w.cell? ⟨c, 0, none⟩ = some (.iface t p) → w'.cell? ⟨c, 0, none⟩ = some (.iface t p) := fun {c t p} hc => by
    have hne := hb.ne (v := .string sv') rfl hc (by intro e; cases e)
    rw [World.cell?_of_block (a := ⟨c, 0, none⟩) (hg.block c (World.block_lt_of_cell? w _ hc) (fun e => hne (Option.some.inj e)))]
    exact hc
  exact ⟨⟨t1, p1, k h1⟩, ⟨t2, p2, k h2⟩⟩
theorem grown_own2 {w w1 w2 : World} {pb : Nat} {r : Option Nat} (h : w.grownBy w1 (some pb)) (k : w1.grownBy w2 r) (hr : ∀ b, r = some b → w.heap.size ≤ b) : w.grownBy w2 (some pb) :=
  ⟨k.os.trans h.os, k.tape.trans h.tape, k.output.trans h.output, Nat.le_trans h.size k.size, fun b hb hn => (k.block b (Nat.lt_of_lt_of_le hb h.size) (fun e => by have := hr b e.symm; omega)).trans (h.block b hb hn)⟩
/-- Where the reader's loop stands. -/
structure RdI (d : Nat) (w : World) (pb : Nat) (D : Int) (R : List VT × Bool × List UInt8) (k : Nat) (items : List VT) (s : List UInt8) (iv : Value) (cs : List Value) (S : Nat → Prop) (wr : World) : Prop where
  eq : rdL (rdV d) k items s = R
  fuel : s.length < k
  len : items.length + s.length ≤ 1000000000
  z : Blk wr pb #[.string ⟨s.toArray⟩, .int .i64 (D + 1)] 89
  v : Blk wr (w.heap.size + 1) #[.bool true, .int .i64 0, iv] 34
  x : Blk wr w.heap.size #[.pointer (some ⟨pb, 0, none⟩)] 87
  it : Items wr (w.heap.size + 2) S iv cs items
  hS : ∀ b, S b → w.heap.size + 2 ≤ b ∧ b < wr.heap.size
  g : w.grownBy wr (some pb)
/-- Behind the deferred call. -/
theorem rd_end {w W : World} {pb : Nat} {D : Int} {s : List UInt8} {items : List VT} {iv : Value} {cs : List Value} {S : Nat → Prop} (hpb : pb < w.heap.size)
    (z : Blk W pb #[.string ⟨s.toArray⟩, .int .i64 (D + 1)] 89) (v : Blk W (w.heap.size + 1) #[.bool true, .int .i64 0, iv] 34) (it : Items W (w.heap.size + 2) S iv cs items) (hS : ∀ b, S b → w.heap.size + 2 ≤ b) (g : w.grownBy W (some pb)) :
    Blk (W.setCell ⟨pb, 1, none⟩ (.int .i64 (D + 1 - 1))) (w.heap.size + 1) #[.bool true, .int .i64 0, iv] 34 ∧ ValIn (fun b => w.heap.size ≤ b) (W.setCell ⟨pb, 1, none⟩ (.int .i64 (D + 1 - 1))) (.agg #[.bool true, .int .i64 0, iv]) (.mk true 0 items) ∧
      Blk (W.setCell ⟨pb, 1, none⟩ (.int .i64 (D + 1 - 1))) pb #[.string ⟨s.toArray⟩, .int .i64 D] 89 ∧ w.grownBy (W.setCell ⟨pb, 1, none⟩ (.int .i64 (D + 1 - 1))) (some pb) := by
  have hlt := it.lt
  refine ⟨v.oth pb 1 (by omega) _, ?_, ?_, grown_set g pb 1 _ (.inl rfl)⟩
  · have := it.keep (w' := W.setCell ⟨pb, 1, none⟩ (.int .i64 (D + 1 - 1))) (by rw [size_setCell]; exact Nat.le_refl _) (fun b hb _ => by have := hS b hb; exact Below.heap_setCell _ _ _ _ (by dsimp only; omega)) (fun b hb _ => by have := (hlt b hb).1; exact Below.heap_setCell _ _ _ _ (by dsimp only; omega))
    refine this.val.keep (Nat.le_refl _) (fun b hb _ => ⟨?_, rfl⟩)
    rcases hb with hb | hb
    · have := hS b hb; omega
    · have := (hlt b hb).1; omega
  · have := z.set 1 (.int .i64 (D + 1 - 1))
    simp only [List.setIfInBounds_toArray, List.set_cons_zero, List.set_cons_succ] at this
    rw [show D + 1 - 1 = D by omega] at this ⊢
    exact this
theorem info_value3 : (Tryd.prog.info? 34).map (fun i => (i.zero, i.size, i.bytes)) = some (some (.agg #[.bool false, .int .i64 0, .slice none 0 0]), 3, 40) := by kernel_rfl
theorem numR_64 (l : List UInt8) : In64 (numR l) := by
  unfold numR
  rcases h : Lib.atoiAll l with v | _ | _
  · exact Lib.atoiAll_bounds h
  · show In64 0; exact ⟨by decide, by decide⟩
  · show In64 (Lib.atoiSat l); unfold Lib.atoiSat; split <;> exact ⟨by decide, by decide⟩
theorem ba_ext (s : List UInt8) (a b : Nat) : (⟨s.toArray⟩ : ByteArray).extract a b = ⟨((s.drop a).take (b - a)).toArray⟩ := by
  have := Lib.extract_data ⟨s.toArray⟩ a b
  apply ByteArray.ext
  apply Array.ext'
  rw [this]
theorem reader_zero (s : List UInt8) (pb : Nat) (w : World) (D : Int) (hD : D = 7) (hb : Blk w pb #[.string ⟨s.toArray⟩, .int .i64 D] 89) :
    Calls Tryd.prog 50 #[.pointer (some ⟨pb, 0, none⟩)] w (RdR pb w D (.mk false 0 [], false, s)) := by
  subst hD
  unfold RdR
  have hlt := hb.lt
  have hb2 := (hb.alloc (.cells #[.pointer (some ⟨pb, 0, none⟩)] 87)).alloc (.cells #[.bool false, .int .i64 0, .slice none 0 0] 34)
  have c1 : ((w.alloc (.cells #[.pointer (some ⟨pb, 0, none⟩)] 87)).alloc (.cells #[.bool false, .int .i64 0, .slice none 0 0] 34)).cell? ⟨pb, 1, none⟩ = some (.int .i64 7) := by simpa using hb2.cell 1
  go_enter_defers Tryd.func50, Tryd.ntmps50
  go_wp2_with fail
  have hB : Below w.heap.size w ((w.alloc (.cells #[.pointer (some ⟨pb, 0, none⟩)] 87)).alloc (.cells #[.bool false, .int .i64 0, .slice none 0 0] 34)) := by repeat (first | with_reducible assumption | with_reducible exact Below.refl _ _ | with_reducible apply Below.drew | (with_reducible refine Below.alloc ?_ (by first | omega | (simp only [zA, zS, zD, zN]; omega) | (dsimp only; omega) | (simp only [zA, zS, zD, zN]; dsimp only; omega)) _) | (with_reducible refine Below.setCell ?_ (by first | omega | (simp only [zA, zS, zD, zN]; omega) | (dsimp only; omega) | (simp only [zA, zS, zD, zN]; dsimp only; omega)) _) | (with_reducible apply below_drewN))
  refine ⟨.tuple #[.agg #[.bool false, .int .i64 0, .slice none 0 0], .bool false], by simp [results, Tryd.results50, go_sem], ?_⟩
  exact ⟨⟨_, rfl, ValIn.leaf _ _ ⟨by omega, by omega⟩⟩, hb2, grown_of hB⟩
set_option maxHeartbeats 4000000 in
theorem reader_leaf (CX : IdxAny) (s : List UInt8) (pb : Nat) (w : World) (D : Int) (K : Nat) (nr : Int) (bo : Bool) (HK : Hid (cutN s = K)) (HNR : Hid (numR (s.take K) = nr)) (HBO : Hid (numOk (s.take K) = bo)) (p0 : ¬ (6 : Int) < D) (hD0 : 0 ≤ D) (hp : Lib.hasPrefix s [40] = false) (hE : NumErrsAt w) (hs : s.length ≤ 1000000000) (hb : Blk w pb #[.string ⟨s.toArray⟩, .int .i64 D] 89) :
    Calls Tryd.prog 50 #[.pointer (some ⟨pb, 0, none⟩)] w (RdR pb w D (.mk false nr [], bo, s.drop K)) := by
  have HCX := Lib.hid CX
  have HE := Lib.hid hE
  clear CX hE
  unfold RdR
  have hlt := hb.lt
  have hB0 : Below w.heap.size w ((w.alloc (.cells #[.pointer (some ⟨pb, 0, none⟩)] 87)).alloc (.cells #[.bool false, .int .i64 0, .slice none 0 0] 34)) := by repeat (first | with_reducible assumption | with_reducible exact Below.refl _ _ | with_reducible apply Below.drew | (with_reducible refine Below.alloc ?_ (by first | omega | (simp only [zA, zS, zD, zN]; omega) | (dsimp only; omega) | (simp only [zA, zS, zD, zN]; dsimp only; omega)) _) | (with_reducible refine Below.setCell ?_ (by first | omega | (simp only [zA, zS, zD, zN]; omega) | (dsimp only; omega) | (simp only [zA, zS, zD, zN]; dsimp only; omega)) _) | (with_reducible apply below_drewN))
  have ZB := (hb.alloc (.cells #[.pointer (some ⟨pb, 0, none⟩)] 87)).alloc (.cells #[.bool false, .int .i64 0, .slice none 0 0] 34)
  have XB : Blk ((w.alloc (.cells #[.pointer (some ⟨pb, 0, none⟩)] 87)).alloc (.cells #[.bool false, .int .i64 0, .slice none 0 0] 34)) w.heap.size #[.pointer (some ⟨pb, 0, none⟩)] 87 := (Blk.new _ _ _).alloc _
  have VB : Blk ((w.alloc (.cells #[.pointer (some ⟨pb, 0, none⟩)] 87)).alloc (.cells #[.bool false, .int .i64 0, .slice none 0 0] 34)) (w.heap.size + 1) #[.bool false, .int .i64 0, .slice none 0 0] 34 := by simpa using Blk.new (w.alloc (.cells #[.pointer (some ⟨pb, 0, none⟩)] 87)) #[.bool false, .int .i64 0, .slice none 0 0] 34
  have HZ : Hid (((w.alloc (.cells #[.pointer (some ⟨pb, 0, none⟩)] 87)).alloc (.cells #[.bool false, .int .i64 0, .slice none 0 0] 34)).heap.size = w.heap.size + 1 + 1) := by show _ = _; simp
  have c1 := ZB.cell 1
  have c0 := ZB.cell 0
  simp only [List.getElem?_toArray, List.getElem?_cons_succ, List.getElem?_cons_zero] at c0 c1
  go_enter_defers Tryd.func50, Tryd.ntmps50
  go_wp2_with fail
  generalize ((w.alloc (.cells #[.pointer (some ⟨pb, 0, none⟩)] 87)).alloc (.cells #[.bool false, .int .i64 0, .slice none 0 0] 34)) = W0 at *
  refine (cutp_any ⟨s.toArray⟩ ⟨#[40]⟩ W0).mono ?_
  rintro e w1 ⟨rfl, hw⟩
  rw [hw, show (⟨s.toArray⟩ : ByteArray).data.toList = s from rfl, show (⟨#[40]⟩ : ByteArray).data.toList = [40] from rfl, hp]
  clear hw w1 c0 c1
  have x0 := XB.cell 0
  simp only [List.getElem?_toArray, List.getElem?_cons_succ, List.getElem?_cons_zero] at x0
  have z0 := ZB.cell 0
  have z1 := ZB.cell 1
  simp only [List.getElem?_toArray, List.getElem?_cons_succ, List.getElem?_cons_zero] at z0 z1
  have v0 := VB.cell 0
  have v1 := VB.cell 1
  have v2 := VB.cell 2
  simp only [List.getElem?_toArray, List.getElem?_cons_succ, List.getElem?_cons_zero] at v0 v1 v2
  have uz0 := ZB.unfrozen 0
  have uz1 := ZB.unfrozen 1
  have uv0 := VB.unfrozen 0
  have uv1 := VB.unfrozen 1
  have uv2 := VB.unfrozen 2
  go_wp2_with fail
  refine (HCX.out ⟨s.toArray⟩ W0 (by show s.toArray.size < _; simp; omega)).mono ?_
  rintro e w1 ⟨rfl, hb1⟩
  rw [show (⟨s.toArray⟩ : ByteArray).data.toList = s from rfl]
  have ZB := ZB.ext hb1
  have XB := XB.ext hb1
  have VB := VB.ext hb1
  have hB1 := hB0.trans (hb1.mono hB0.size)
  clear hb1 x0 z0 z1 v0 v1 v2 uz0 uz1 uv0 uv1 uv2
  have x0 := XB.cell 0
  simp only [List.getElem?_toArray, List.getElem?_cons_succ, List.getElem?_cons_zero] at x0
  have z0 := ZB.cell 0
  have z1 := ZB.cell 1
  simp only [List.getElem?_toArray, List.getElem?_cons_succ, List.getElem?_cons_zero] at z0 z1
  have v0 := VB.cell 0
  have v1 := VB.cell 1
  have v2 := VB.cell 2
  simp only [List.getElem?_toArray, List.getElem?_cons_succ, List.getElem?_cons_zero] at v0 v1 v2
  have uz0 := ZB.unfrozen 0
  have uz1 := ZB.unfrozen 1
  have uv0 := VB.unfrozen 0
  have uv1 := VB.unfrozen 1
  have uv2 := VB.unfrozen 2
  have hcl := cutN_le s
  rw [HK.out] at hcl
  by_cases hi : Lib.indexAny s [32, 41] < 0
  · have hk : s.length = K := by rw [← HK.out]; unfold cutN; rw [if_pos hi]
    go_wp2_with fail
    rw [show (⟨s.toArray⟩ : ByteArray).extract 0 K = ⟨(s.take K).toArray⟩ from by rw [ba_ext]; simp]
    refine (atoi_any ⟨(s.take K).toArray⟩ (by show (s.take K).toArray.size ≤ _; simp; omega) w1 (HE.out.ext hB1)).mono ?_
    rintro e w2 ⟨⟨ev, rfl, hok, hno⟩, hb2⟩
    rw [show (⟨(s.take K).toArray⟩ : ByteArray).data.toList = s.take K from rfl, HBO.out] at hok hno
    rw [show (⟨(s.take K).toArray⟩ : ByteArray).data.toList = s.take K from rfl, HNR.out]
    have ZB := ZB.ext hb2
    have XB := XB.ext hb2
    have VB := VB.ext hb2
    have hB2 := hB1.trans (hb2.mono hB1.size)
    clear hb2 x0 z0 z1 v0 v1 v2 uz0 uz1 uv0 uv1 uv2
    have x0 := XB.cell 0
    simp only [List.getElem?_toArray, List.getElem?_cons_succ, List.getElem?_cons_zero] at x0
    have z0 := ZB.cell 0
    have z1 := ZB.cell 1
    simp only [List.getElem?_toArray, List.getElem?_cons_succ, List.getElem?_cons_zero] at z0 z1
    have v0 := VB.cell 0
    have v1 := VB.cell 1
    have v2 := VB.cell 2
    simp only [List.getElem?_toArray, List.getElem?_cons_succ, List.getElem?_cons_zero] at v0 v1 v2
    have uz0 := ZB.unfrozen 0
    have uz1 := ZB.unfrozen 1
    have uv0 := VB.unfrozen 0
    have uv1 := VB.unfrozen 1
    have uv2 := VB.unfrozen 2
    have hbo : (ev = .nilIface ∧ bo = true) ∨ (∃ t N, ev = .iface t (.pointer (some ⟨N, 0, none⟩)) ∧ bo = false) := by
      cases bo with
      | true => exact .inl ⟨hok rfl, rfl⟩
      | false => obtain ⟨t, N, h⟩ := hno rfl; exact .inr ⟨t, N, h, rfl⟩
    have HN : Hid (In64 nr) := by rw [← HNR.out]; exact numR_64 _
    clear hok hno
    rcases hbo with ⟨rfl, rfl⟩ | ⟨t, N, rfl, rfl⟩
    · go_wp2_with fail
      go_region
      have ec : (ByteArray.empty : ByteArray) = ⟨(s.drop K).toArray⟩ := by rw [← hk, List.drop_length]; rfl
      rw [ec]
      have ZC := (ZB.set 0 (.string ⟨(s.drop K).toArray⟩)).drew
      have VC := (VB.oth pb 0 (by omega) (.string ⟨(s.drop K).toArray⟩)).drew
      simp only [List.setIfInBounds_toArray, List.set_cons_zero, List.set_cons_succ] at ZC
      have hg : w.grownBy (w2.setCell ⟨pb, 0, none⟩ (.string ⟨(s.drop K).toArray⟩)).drew (some pb) := grown_drew (grown_set (grown_of hB2) pb 0 _ (.inl rfl))
      have hwz : w.heap.size + 1 < (w2.setCell ⟨pb, 0, none⟩ (.string ⟨(s.drop K).toArray⟩)).drew.heap.size := VC.lt
      clear x0 z0 z1 v0 v1 v2 uz0 uz1 uv0 uv1 uv2 ec ZB VB XB hB0 hB1 hB2
      generalize (w2.setCell ⟨pb, 0, none⟩ (.string ⟨(s.drop K).toArray⟩)).drew = W3 at *
      have v0 := VC.cell 0
      have v1 := VC.cell 1
      have v2 := VC.cell 2
      simp only [List.getElem?_toArray, List.getElem?_cons_succ, List.getElem?_cons_zero] at v0 v1 v2
      have uv0 := VC.unfrozen 0
      have uv1 := VC.unfrozen 1
      have uv2 := VC.unfrozen 2
      go_wp2_with fail
      go_region
      have VD := (((VC.set 0 (.bool false)).set 1 (.int .i64 nr)).set 2 (.slice none 0 0)).drew
      simp only [List.setIfInBounds_toArray, List.set_cons_zero, List.set_cons_succ] at VD
      have ZD := (((ZC.oth (w.heap.size + 1) 0 (by omega) (.bool false)).oth (w.heap.size + 1) 1 (by omega) (.int .i64 nr)).oth (w.heap.size + 1) 2 (by omega) (.slice none 0 0)).drew
      have hgD := grown_drew (grown_set (grown_set (grown_set hg (w.heap.size + 1) 0 (.bool false) (.inr (by omega))) (w.heap.size + 1) 1 (.int .i64 nr) (.inr (by omega))) (w.heap.size + 1) 2 (.slice none 0 0) (.inr (by omega)))
      clear v0 v1 v2 uv0 uv1 uv2 VC ZC hg hwz
      generalize (((W3.setCell ⟨w.heap.size + 1, 0, none⟩ (.bool false)).setCell ⟨w.heap.size + 1, 1, none⟩ (.int .i64 nr)).setCell ⟨w.heap.size + 1, 2, none⟩ (.slice none 0 0)).drew = W4 at *
      have v0 := VD.cell 0
      have v1 := VD.cell 1
      have v2 := VD.cell 2
      simp only [List.getElem?_toArray, List.getElem?_cons_succ, List.getElem?_cons_zero] at v0 v1 v2
      go_wp2_with fail
      refine ⟨.tuple #[.agg #[.bool false, .int .i64 nr, .slice none 0 0], .bool true], by simp [results, Tryd.results50, go_sem, v0, v1, v2], ?_⟩
      exact ⟨⟨_, rfl, ValIn.leaf _ _ HN.out⟩, ZD, hgD⟩
    · go_wp2_with fail
      go_region
      have ec : (ByteArray.empty : ByteArray) = ⟨(s.drop K).toArray⟩ := by rw [← hk, List.drop_length]; rfl
      rw [ec]
      have ZC := (ZB.set 0 (.string ⟨(s.drop K).toArray⟩)).drew
      have VC := (VB.oth pb 0 (by omega) (.string ⟨(s.drop K).toArray⟩)).drew
      simp only [List.setIfInBounds_toArray, List.set_cons_zero, List.set_cons_succ] at ZC
      have hg : w.grownBy (w2.setCell ⟨pb, 0, none⟩ (.string ⟨(s.drop K).toArray⟩)).drew (some pb) := grown_drew (grown_set (grown_of hB2) pb 0 _ (.inl rfl))
      have hwz : w.heap.size + 1 < (w2.setCell ⟨pb, 0, none⟩ (.string ⟨(s.drop K).toArray⟩)).drew.heap.size := VC.lt
      clear x0 z0 z1 v0 v1 v2 uz0 uz1 uv0 uv1 uv2 ec ZB VB XB hB0 hB1 hB2
      generalize (w2.setCell ⟨pb, 0, none⟩ (.string ⟨(s.drop K).toArray⟩)).drew = W3 at *
      have v0 := VC.cell 0
      have v1 := VC.cell 1
      have v2 := VC.cell 2
      simp only [List.getElem?_toArray, List.getElem?_cons_succ, List.getElem?_cons_zero] at v0 v1 v2
      have uv0 := VC.unfrozen 0
      have uv1 := VC.unfrozen 1
      have uv2 := VC.unfrozen 2
      go_wp2_with fail
      go_region
      have VD := (((VC.set 0 (.bool false)).set 1 (.int .i64 nr)).set 2 (.slice none 0 0)).drew
      simp only [List.setIfInBounds_toArray, List.set_cons_zero, List.set_cons_succ] at VD
      have ZD := (((ZC.oth (w.heap.size + 1) 0 (by omega) (.bool false)).oth (w.heap.size + 1) 1 (by omega) (.int .i64 nr)).oth (w.heap.size + 1) 2 (by omega) (.slice none 0 0)).drew
      have hgD := grown_drew (grown_set (grown_set (grown_set hg (w.heap.size + 1) 0 (.bool false) (.inr (by omega))) (w.heap.size + 1) 1 (.int .i64 nr) (.inr (by omega))) (w.heap.size + 1) 2 (.slice none 0 0) (.inr (by omega)))
      clear v0 v1 v2 uv0 uv1 uv2 VC ZC hg hwz
      generalize (((W3.setCell ⟨w.heap.size + 1, 0, none⟩ (.bool false)).setCell ⟨w.heap.size + 1, 1, none⟩ (.int .i64 nr)).setCell ⟨w.heap.size + 1, 2, none⟩ (.slice none 0 0)).drew = W4 at *
      have v0 := VD.cell 0
      have v1 := VD.cell 1
      have v2 := VD.cell 2
      simp only [List.getElem?_toArray, List.getElem?_cons_succ, List.getElem?_cons_zero] at v0 v1 v2
      go_wp2_with fail
      refine ⟨.tuple #[.agg #[.bool false, .int .i64 nr, .slice none 0 0], .bool false], by simp [results, Tryd.results50, go_sem, v0, v1, v2], ?_⟩
      exact ⟨⟨_, rfl, ValIn.leaf _ _ HN.out⟩, ZD, hgD⟩
  · have hk : Lib.indexAny s [32, 41] = (K : Int) := by rw [← HK.out]; unfold cutN; rw [if_neg hi]; omega
    rw [hk]
    have hi2 : ¬ (K : Int) < 0 := by omega
    clear hi hk
    go_wp2_with fail
    rw [show (⟨s.toArray⟩ : ByteArray).extract 0 K = ⟨(s.take K).toArray⟩ from by rw [ba_ext]; simp]
    refine (atoi_any ⟨(s.take K).toArray⟩ (by show (s.take K).toArray.size ≤ _; simp; omega) w1 (HE.out.ext hB1)).mono ?_
    rintro e w2 ⟨⟨ev, rfl, hok, hno⟩, hb2⟩
    rw [show (⟨(s.take K).toArray⟩ : ByteArray).data.toList = s.take K from rfl, HBO.out] at hok hno
    rw [show (⟨(s.take K).toArray⟩ : ByteArray).data.toList = s.take K from rfl, HNR.out]
    have ZB := ZB.ext hb2
    have XB := XB.ext hb2
    have VB := VB.ext hb2
    have hB2 := hB1.trans (hb2.mono hB1.size)
    clear hb2 x0 z0 z1 v0 v1 v2 uz0 uz1 uv0 uv1 uv2
    have x0 := XB.cell 0
    simp only [List.getElem?_toArray, List.getElem?_cons_succ, List.getElem?_cons_zero] at x0
    have z0 := ZB.cell 0
    have z1 := ZB.cell 1
    simp only [List.getElem?_toArray, List.getElem?_cons_succ, List.getElem?_cons_zero] at z0 z1
    have v0 := VB.cell 0
    have v1 := VB.cell 1
    have v2 := VB.cell 2
    simp only [List.getElem?_toArray, List.getElem?_cons_succ, List.getElem?_cons_zero] at v0 v1 v2
    have uz0 := ZB.unfrozen 0
    have uz1 := ZB.unfrozen 1
    have uv0 := VB.unfrozen 0
    have uv1 := VB.unfrozen 1
    have uv2 := VB.unfrozen 2
    have hbo : (ev = .nilIface ∧ bo = true) ∨ (∃ t N, ev = .iface t (.pointer (some ⟨N, 0, none⟩)) ∧ bo = false) := by
      cases bo with
      | true => exact .inl ⟨hok rfl, rfl⟩
      | false => obtain ⟨t, N, h⟩ := hno rfl; exact .inr ⟨t, N, h, rfl⟩
    have HN : Hid (In64 nr) := by rw [← HNR.out]; exact numR_64 _
    clear hok hno
    rcases hbo with ⟨rfl, rfl⟩ | ⟨t, N, rfl, rfl⟩
    · go_wp2_with fail
      go_region
      have ec : ((⟨s.toArray⟩ : ByteArray).extract K s.length : ByteArray) = ⟨(s.drop K).toArray⟩ := by rw [ba_ext]; congr 2; exact List.take_of_length_le (by simp)
      rw [ec]
      have ZC := (ZB.set 0 (.string ⟨(s.drop K).toArray⟩)).drew
      have VC := (VB.oth pb 0 (by omega) (.string ⟨(s.drop K).toArray⟩)).drew
      simp only [List.setIfInBounds_toArray, List.set_cons_zero, List.set_cons_succ] at ZC
      have hg : w.grownBy (w2.setCell ⟨pb, 0, none⟩ (.string ⟨(s.drop K).toArray⟩)).drew (some pb) := grown_drew (grown_set (grown_of hB2) pb 0 _ (.inl rfl))
      have hwz : w.heap.size + 1 < (w2.setCell ⟨pb, 0, none⟩ (.string ⟨(s.drop K).toArray⟩)).drew.heap.size := VC.lt
      clear x0 z0 z1 v0 v1 v2 uz0 uz1 uv0 uv1 uv2 ec ZB VB XB hB0 hB1 hB2
      generalize (w2.setCell ⟨pb, 0, none⟩ (.string ⟨(s.drop K).toArray⟩)).drew = W3 at *
      have v0 := VC.cell 0
      have v1 := VC.cell 1
      have v2 := VC.cell 2
      simp only [List.getElem?_toArray, List.getElem?_cons_succ, List.getElem?_cons_zero] at v0 v1 v2
      have uv0 := VC.unfrozen 0
      have uv1 := VC.unfrozen 1
      have uv2 := VC.unfrozen 2
      go_wp2_with fail
      go_region
      have VD := (((VC.set 0 (.bool false)).set 1 (.int .i64 nr)).set 2 (.slice none 0 0)).drew
      simp only [List.setIfInBounds_toArray, List.set_cons_zero, List.set_cons_succ] at VD
      have ZD := (((ZC.oth (w.heap.size + 1) 0 (by omega) (.bool false)).oth (w.heap.size + 1) 1 (by omega) (.int .i64 nr)).oth (w.heap.size + 1) 2 (by omega) (.slice none 0 0)).drew
      have hgD := grown_drew (grown_set (grown_set (grown_set hg (w.heap.size + 1) 0 (.bool false) (.inr (by omega))) (w.heap.size + 1) 1 (.int .i64 nr) (.inr (by omega))) (w.heap.size + 1) 2 (.slice none 0 0) (.inr (by omega)))
      clear v0 v1 v2 uv0 uv1 uv2 VC ZC hg hwz
      generalize (((W3.setCell ⟨w.heap.size + 1, 0, none⟩ (.bool false)).setCell ⟨w.heap.size + 1, 1, none⟩ (.int .i64 nr)).setCell ⟨w.heap.size + 1, 2, none⟩ (.slice none 0 0)).drew = W4 at *
      have v0 := VD.cell 0
      have v1 := VD.cell 1
      have v2 := VD.cell 2
      simp only [List.getElem?_toArray, List.getElem?_cons_succ, List.getElem?_cons_zero] at v0 v1 v2
      go_wp2_with fail
      refine ⟨.tuple #[.agg #[.bool false, .int .i64 nr, .slice none 0 0], .bool true], by simp [results, Tryd.results50, go_sem, v0, v1, v2], ?_⟩
      exact ⟨⟨_, rfl, ValIn.leaf _ _ HN.out⟩, ZD, hgD⟩
    · go_wp2_with fail
      go_region
      have ec : ((⟨s.toArray⟩ : ByteArray).extract K s.length : ByteArray) = ⟨(s.drop K).toArray⟩ := by rw [ba_ext]; congr 2; exact List.take_of_length_le (by simp)
      rw [ec]
      have ZC := (ZB.set 0 (.string ⟨(s.drop K).toArray⟩)).drew
      have VC := (VB.oth pb 0 (by omega) (.string ⟨(s.drop K).toArray⟩)).drew
      simp only [List.setIfInBounds_toArray, List.set_cons_zero, List.set_cons_succ] at ZC
      have hg : w.grownBy (w2.setCell ⟨pb, 0, none⟩ (.string ⟨(s.drop K).toArray⟩)).drew (some pb) := grown_drew (grown_set (grown_of hB2) pb 0 _ (.inl rfl))
      have hwz : w.heap.size + 1 < (w2.setCell ⟨pb, 0, none⟩ (.string ⟨(s.drop K).toArray⟩)).drew.heap.size := VC.lt
      clear x0 z0 z1 v0 v1 v2 uz0 uz1 uv0 uv1 uv2 ec ZB VB XB hB0 hB1 hB2
      generalize (w2.setCell ⟨pb, 0, none⟩ (.string ⟨(s.drop K).toArray⟩)).drew = W3 at *
      have v0 := VC.cell 0
      have v1 := VC.cell 1
      have v2 := VC.cell 2
      simp only [List.getElem?_toArray, List.getElem?_cons_succ, List.getElem?_cons_zero] at v0 v1 v2
      have uv0 := VC.unfrozen 0
      have uv1 := VC.unfrozen 1
      have uv2 := VC.unfrozen 2
      go_wp2_with fail
      go_region
      have VD := (((VC.set 0 (.bool false)).set 1 (.int .i64 nr)).set 2 (.slice none 0 0)).drew
      simp only [List.setIfInBounds_toArray, List.set_cons_zero, List.set_cons_succ] at VD
      have ZD := (((ZC.oth (w.heap.size + 1) 0 (by omega) (.bool false)).oth (w.heap.size + 1) 1 (by omega) (.int .i64 nr)).oth (w.heap.size + 1) 2 (by omega) (.slice none 0 0)).drew
      have hgD := grown_drew (grown_set (grown_set (grown_set hg (w.heap.size + 1) 0 (.bool false) (.inr (by omega))) (w.heap.size + 1) 1 (.int .i64 nr) (.inr (by omega))) (w.heap.size + 1) 2 (.slice none 0 0) (.inr (by omega)))
      clear v0 v1 v2 uv0 uv1 uv2 VC ZC hg hwz
      generalize (((W3.setCell ⟨w.heap.size + 1, 0, none⟩ (.bool false)).setCell ⟨w.heap.size + 1, 1, none⟩ (.int .i64 nr)).setCell ⟨w.heap.size + 1, 2, none⟩ (.slice none 0 0)).drew = W4 at *
      have v0 := VD.cell 0
      have v1 := VD.cell 1
      have v2 := VD.cell 2
      simp only [List.getElem?_toArray, List.getElem?_cons_succ, List.getElem?_cons_zero] at v0 v1 v2
      go_wp2_with fail
      refine ⟨.tuple #[.agg #[.bool false, .int .i64 nr, .slice none 0 0], .bool false], by simp [results, Tryd.results50, go_sem, v0, v1, v2], ?_⟩
      exact ⟨⟨_, rfl, ValIn.leaf _ _ HN.out⟩, ZD, hgD⟩
set_option maxHeartbeats 8000000 in
theorem reader_list (d : Nat) (s : List UInt8) (pb : Nat) (w : World) (D : Int) (R : List VT × Bool × List UInt8) (HR : Hid (rdL (rdV d) (s.length + 1) [] (s.drop 1) = R)) (p0 : ¬ (6 : Int) < D) (hD0 : 0 ≤ D)
    (IH : Hid (∀ (s : List UInt8) (pb : Nat) (w : World), NumErrsAt w → s.length ≤ 1000000000 → Blk w pb #[.string ⟨s.toArray⟩, .int .i64 (D + 1)] 89 → Calls Tryd.prog 50 #[.pointer (some ⟨pb, 0, none⟩)] w (RdR pb w (D + 1) (rdV d s))))
    (hp : Lib.hasPrefix s [40] = true) (hE : NumErrsAt w) (hs : s.length ≤ 1000000000) (hb : Blk w pb #[.string ⟨s.toArray⟩, .int .i64 D] 89) :
    Calls Tryd.prog 50 #[.pointer (some ⟨pb, 0, none⟩)] w (RdR pb w D (.mk true 0 R.1, R.2.1, R.2.2)) := by
  have HE := Lib.hid hE
  clear hE
  unfold RdR
  have hmf : ∀ (fn : Fn) (first cap : Array Value) (w : World), (Instr.makeFunc fn first cap).run Tryd.prog w = .ok (.func fn first cap) w := fun _ _ _ _ => rfl
  obtain ⟨s1, hs1⟩ : ∃ s1, s1 = s.drop 1 := ⟨_, rfl⟩
  have htp : Lib.trimPrefix s [40] = s1 := by unfold Lib.trimPrefix; rw [if_pos hp, hs1]; rfl
  have hl1 : s1.length + 1 = s.length := by
    obtain ⟨r, rfl⟩ := (hasPrefix_one s 40).1 hp
    rw [hs1]; simp
  rw [← hs1] at HR
  have HB := Lib.hid hb
  clear hs1
  have hlt := hb.lt
  have hB0 : Below w.heap.size w ((w.alloc (.cells #[.pointer (some ⟨pb, 0, none⟩)] 87)).alloc (.cells #[.bool false, .int .i64 0, .slice none 0 0] 34)) := by repeat (first | with_reducible assumption | with_reducible exact Below.refl _ _ | with_reducible apply Below.drew | (with_reducible refine Below.alloc ?_ (by first | omega | (simp only [zA, zS, zD, zN]; omega) | (dsimp only; omega) | (simp only [zA, zS, zD, zN]; dsimp only; omega)) _) | (with_reducible refine Below.setCell ?_ (by first | omega | (simp only [zA, zS, zD, zN]; omega) | (dsimp only; omega) | (simp only [zA, zS, zD, zN]; dsimp only; omega)) _) | (with_reducible apply below_drewN))
  have ZB := (hb.alloc (.cells #[.pointer (some ⟨pb, 0, none⟩)] 87)).alloc (.cells #[.bool false, .int .i64 0, .slice none 0 0] 34)
  have XB : Blk ((w.alloc (.cells #[.pointer (some ⟨pb, 0, none⟩)] 87)).alloc (.cells #[.bool false, .int .i64 0, .slice none 0 0] 34)) w.heap.size #[.pointer (some ⟨pb, 0, none⟩)] 87 := (Blk.new _ _ _).alloc _
  have VB : Blk ((w.alloc (.cells #[.pointer (some ⟨pb, 0, none⟩)] 87)).alloc (.cells #[.bool false, .int .i64 0, .slice none 0 0] 34)) (w.heap.size + 1) #[.bool false, .int .i64 0, .slice none 0 0] 34 := by simpa using Blk.new (w.alloc (.cells #[.pointer (some ⟨pb, 0, none⟩)] 87)) #[.bool false, .int .i64 0, .slice none 0 0] 34
  have HZ : Hid (((w.alloc (.cells #[.pointer (some ⟨pb, 0, none⟩)] 87)).alloc (.cells #[.bool false, .int .i64 0, .slice none 0 0] 34)).heap.size = w.heap.size + 1 + 1) := by show _ = _; simp
  have c1 := ZB.cell 1
  have c0 := ZB.cell 0
  simp only [List.getElem?_toArray, List.getElem?_cons_succ, List.getElem?_cons_zero] at c0 c1
  go_enter_defers Tryd.func50, Tryd.ntmps50
  go_wp2_with fail
  generalize ((w.alloc (.cells #[.pointer (some ⟨pb, 0, none⟩)] 87)).alloc (.cells #[.bool false, .int .i64 0, .slice none 0 0] 34)) = W0 at *
  refine (cutp_any ⟨s.toArray⟩ ⟨#[40]⟩ W0).mono ?_
  rintro e w1 ⟨rfl, hw⟩
  rw [hw, show (⟨s.toArray⟩ : ByteArray).data.toList = s from rfl, show (⟨#[40]⟩ : ByteArray).data.toList = [40] from rfl, hp, htp]
  clear hw w1 c0 c1
  have x0 := XB.cell 0
  simp only [List.getElem?_toArray, List.getElem?_cons_succ, List.getElem?_cons_zero] at x0
  have z0 := ZB.cell 0
  have z1 := ZB.cell 1
  simp only [List.getElem?_toArray, List.getElem?_cons_succ, List.getElem?_cons_zero] at z0 z1
  have v0 := VB.cell 0
  have v1 := VB.cell 1
  have v2 := VB.cell 2
  simp only [List.getElem?_toArray, List.getElem?_cons_succ, List.getElem?_cons_zero] at v0 v1 v2
  have uz0 := ZB.unfrozen 0
  have uz1 := ZB.unfrozen 1
  have uv0 := VB.unfrozen 0
  have uv1 := VB.unfrozen 1
  have uv2 := VB.unfrozen 2
  clear hp htp
  go_wp2_with fail
  have ZL := ((ZB.set 0 (.string ⟨s1.toArray⟩)).oth (w.heap.size + 1) 0 (by omega) (.bool true)).set 1 (.int .i64 (D + 1))
  have XL := ((XB.oth pb 0 (by omega) (.string ⟨s1.toArray⟩)).oth (w.heap.size + 1) 0 (by omega) (.bool true)).oth pb 1 (by omega) (.int .i64 (D + 1))
  have VL := ((VB.oth pb 0 (by omega) (.string ⟨s1.toArray⟩)).set 0 (.bool true)).oth pb 1 (by omega) (.int .i64 (D + 1))
  simp only [List.setIfInBounds_toArray, List.set_cons_zero, List.set_cons_succ] at ZL VL
  have hgL := grown_set (grown_set (grown_set (grown_of hB0) pb 0 (.string ⟨s1.toArray⟩) (.inl rfl)) (w.heap.size + 1) 0 (.bool true) (.inr (by omega))) pb 1 (.int .i64 (D + 1)) (.inl rfl)
  have HI : Hid (RdI d w pb D R (s.length + 1) [] s1 (.slice none 0 0) [] (fun _ => False) (((W0.setCell ⟨pb, 0, none⟩ (.string ⟨s1.toArray⟩)).setCell ⟨w.heap.size + 1, 0, none⟩ (.bool true)).setCell ⟨pb, 1, none⟩ (.int .i64 (D + 1)))) :=
    ⟨HR.out, by omega, by simp; omega, ZL, VL, XL, Items.nil _ _, fun _ h => h.elim, hgL⟩
  clear ZL XL VL hgL ZB XB VB x0 z0 z1 v0 v1 v2 uz0 uz1 uv0 uv1 uv2 hB0 HZ hmf hb
  go_loopg [] (s.length + 1) (fun k wr => ∃ items s' iv cs S, RdI d w pb D R k items s' iv cs S wr)
  case atStart => exact ⟨_, _, _, _, _, HI.out⟩
  case round =>
    obtain ⟨items, s', iv, cs, S, hI⟩ := hrel
    clear HI
    cases gk with
    | zero => exact absurd hI.fuel (by omega)
    | succ gk =>
      have ZR := hI.z
      have VR := hI.v
      have XR := hI.x
      have HIT := Lib.hid hI.it
      have HS := Lib.hid hI.hS
      have HG := Lib.hid hI.g
      have HEQ := Lib.hid hI.eq
      have hfu := hI.fuel
      have hle := hI.len
      have hpv := VR.lt
      obtain ⟨iad, icap, rfl, hshp⟩ := hI.it.shape
      clear hI
      have x0 := XR.cell 0
      simp only [List.getElem?_toArray, List.getElem?_cons_succ, List.getElem?_cons_zero] at x0
      have z0 := ZR.cell 0
      have z1 := ZR.cell 1
      simp only [List.getElem?_toArray, List.getElem?_cons_succ, List.getElem?_cons_zero] at z0 z1
      have v0 := VR.cell 0
      have v1 := VR.cell 1
      have v2 := VR.cell 2
      simp only [List.getElem?_toArray, List.getElem?_cons_succ, List.getElem?_cons_zero] at v0 v1 v2
      have uz0 := ZR.unfrozen 0
      have uz1 := ZR.unfrozen 1
      have uv0 := VR.unfrozen 0
      have uv1 := VR.unfrozen 1
      have uv2 := VR.unfrozen 2
      go_wp2_with fail
      refine (cutp_any ⟨s'.toArray⟩ ⟨#[41]⟩ _).mono ?_
      rintro e w1 ⟨rfl, hw⟩
      rw [hw, show (⟨s'.toArray⟩ : ByteArray).data.toList = s' from rfl, show (⟨#[41]⟩ : ByteArray).data.toList = [41] from rfl]
      clear hw w1
      by_cases h41 : Lib.hasPrefix s' [41] = true
      · have heq := HEQ.out
        unfold rdL at heq
        rw [if_pos h41] at heq
        subst heq
        obtain ⟨s2, hs2⟩ : ∃ s2, s2 = s'.drop 1 := ⟨_, rfl⟩
        have htp : Lib.trimPrefix s' [41] = s2 := by unfold Lib.trimPrefix; rw [if_pos h41, hs2]; rfl
        rw [h41, htp]
        have HS2 := Lib.hid hs2
        clear htp h41 HEQ hs2
        go_wp2_with fail
        have ZK := ZR.set 0 (.string ⟨s2.toArray⟩)
        have XK := XR.oth pb 0 (by omega) (.string ⟨s2.toArray⟩)
        have VK := VR.oth pb 0 (by omega) (.string ⟨s2.toArray⟩)
        simp only [List.setIfInBounds_toArray, List.set_cons_zero, List.set_cons_succ] at ZK
        have hgK := grown_set HG.out pb 0 (.string ⟨s2.toArray⟩) (.inl rfl)
        have hSE := HS.out
        have IK := HIT.out.keep (w' := wr.setCell ⟨pb, 0, none⟩ (.string ⟨s2.toArray⟩)) (by rw [size_setCell]; exact Nat.le_refl _) (fun b hb _ => by have := (hSE b hb).1; exact Below.heap_setCell _ _ _ _ (by dsimp only; omega)) (fun b hb _ => by have := (HIT.out.lt b hb).1; exact Below.heap_setCell _ _ _ _ (by dsimp only; omega))
        generalize wr.setCell ⟨pb, 0, none⟩ (.string ⟨s2.toArray⟩) = WK at *
        have hz2 : s2 = s'.tail := by rw [HS2.out, List.drop_one]
        rw [← hz2]
        clear x0 z0 z1 v0 v1 v2 uz0 uz1 uv0 uv1 uv2
        have ZE := ((ZK.oth (w.heap.size + 1) 0 (by omega) (.bool true)).oth (w.heap.size + 1) 1 (by omega) (.int .i64 0)).oth (w.heap.size + 1) 2 (by omega) (.slice iad items.length icap)
        have XE := ((XK.oth (w.heap.size + 1) 0 (by omega) (.bool true)).oth (w.heap.size + 1) 1 (by omega) (.int .i64 0)).oth (w.heap.size + 1) 2 (by omega) (.slice iad items.length icap)
        have VE := ((VK.set 0 (.bool true)).set 1 (.int .i64 0)).set 2 (.slice iad items.length icap)
        simp only [List.setIfInBounds_toArray, List.set_cons_zero, List.set_cons_succ] at VE
        have hgE := grown_set (grown_set (grown_set hgK (w.heap.size + 1) 0 (.bool true) (.inr (by omega))) (w.heap.size + 1) 1 (.int .i64 0) (.inr (by omega))) (w.heap.size + 1) 2 (.slice iad items.length icap) (.inr (by omega))
        have hlo := IK.lt
        have IE := IK.keep (w' := ((WK.setCell ⟨w.heap.size + 1, 0, none⟩ (.bool true)).setCell ⟨w.heap.size + 1, 1, none⟩ (.int .i64 0)).setCell ⟨w.heap.size + 1, 2, none⟩ (.slice iad items.length icap)) (by simp only [size_setCell]; exact Nat.le_refl _) (fun b hb _ => by
          have := (hSE b hb).1
          rw [Below.heap_setCell _ _ _ _ (by dsimp only; omega), Below.heap_setCell _ _ _ _ (by dsimp only; omega), Below.heap_setCell _ _ _ _ (by dsimp only; omega)]) (fun b hb _ => by
          have := (hlo b hb).1
          rw [Below.heap_setCell _ _ _ _ (by dsimp only; omega), Below.heap_setCell _ _ _ _ (by dsimp only; omega), Below.heap_setCell _ _ _ _ (by dsimp only; omega)])
        clear ZK XK VK hgK IK
        generalize ((WK.setCell ⟨w.heap.size + 1, 0, none⟩ (.bool true)).setCell ⟨w.heap.size + 1, 1, none⟩ (.int .i64 0)).setCell ⟨w.heap.size + 1, 2, none⟩ (.slice iad items.length icap) = WE at *
        refine leaves_cons (f := 74) (args := #[.pointer (some ⟨w.heap.size, 0, none⟩)]) (by simp) (by simp [go_sem]) ?_
        refine (dec_deep pb w.heap.size _ (D + 1) _ XE ZE (by omega) (by omega)).mono ?_
        rintro e u' w'' ⟨rfl, rfl, rfl⟩
        obtain ⟨g1, g2, g3, g4⟩ := rd_end hlt ZE VE IE (fun b hb => (hSE b hb).1) hgE
        generalize WE.setCell ⟨pb, 1, none⟩ (.int .i64 (D + 1 - 1)) = WZ at *
        have d0 := g1.cell 0
        have d1 := g1.cell 1
        have d2 := g1.cell 2
        simp only [List.getElem?_toArray, List.getElem?_cons_succ, List.getElem?_cons_zero] at d0 d1 d2
        refine ⟨.tuple #[.agg #[.bool true, .int .i64 0, .slice iad items.length icap], .bool true], by simp [results, Tryd.results50, go_sem, d0, d1, d2], ?_⟩
        exact ⟨⟨_, rfl, g2⟩, g3, g4⟩
      · have h41f : Lib.hasPrefix s' [41] = false := by simpa using h41
        rw [h41f]
        have heq := HEQ.out
        unfold rdL at heq
        rw [if_neg h41] at heq
        clear HEQ
        by_cases hemp : items = []
        · subst hemp
          simp only [List.length_nil] at VR HIT v2 hle
          have enx : nxt [] s' = s' := rfl
          rw [if_neg (by simp), enx] at heq
          go_wp2_with fail
          have hSE := HS.out
          have ZQ := ZR
          have XQ := XR
          have VQ := VR
          have IQ := HIT.out
          have hgQ := HG.out
          have hsq : s'.length ≤ 1000000000 := by omega
          have hsl : s'.length ≤ s'.length := Nat.le_refl _
          clear x0 z0 z1 v0 v1 v2 uz0 uz1 uv0 uv1 uv2 enx h41 h41f
          have HZQ := Lib.hid ZQ
          have hltQ := ZQ.lt
          have hwQ := VQ.lt
          refine (IH.out s' pb wr (HE.out.grown HB.out hgQ) hsq ZQ).mono ?_
          rintro e w5 ⟨⟨xv, rfl, hxv⟩, Z5, hg5⟩
          have hsz5 := hg5.size
          have X5 : Blk w5 w.heap.size #[.pointer (some ⟨pb, 0, none⟩)] 87 := (hg5.block _ XQ.lt (fun e => by have := Option.some.inj e; omega)).trans XQ
          have V5 : Blk w5 (w.heap.size + 1) #[.bool true, .int .i64 0, .slice iad 0 icap] 34 := (hg5.block _ VQ.lt (fun e => by have := Option.some.inj e; omega)).trans VQ
          have I5 := IQ.keep hsz5 (fun b hb hl => hg5.block b hl (fun e => by have := Option.some.inj e; have := (hSE b hb).1; omega)) (fun b hb hl => hg5.block b hl (fun e => by have := Option.some.inj e; have := (IQ.lt b hb).1; omega))
          have hgK5 := grown_trans hgQ hg5
          have HLQ := Lib.hid IQ.lt
          have HTK := Lib.hid (rdV_takes d s')
          obtain ⟨xl, xn, xk, xad, xcap, rfl⟩ := hxv.shape
          have HXV := Lib.hid hxv
          clear hxv hg5 XQ VQ IQ hgQ HZQ ZQ
          generalize rdV d s' = rr at *
          obtain ⟨xt, xo, xs⟩ := rr
          dsimp only at *
          cases xo with
          | false =>
            have heq := heq
            rw [if_neg (by decide)] at heq
            subst heq
            have ZK := Z5.alloc (.cells #[.bool xl, .int .i64 xn, .slice xad xk xcap] 34)
            have XK := X5.alloc (.cells #[.bool xl, .int .i64 xn, .slice xad xk xcap] 34)
            have VK := V5.alloc (.cells #[.bool xl, .int .i64 xn, .slice xad xk xcap] 34)
            have hgK := grown_alloc hgK5 (.cells #[.bool xl, .int .i64 xn, .slice xad xk xcap] 34)
            have IK := I5.keep (w' := w5.alloc (.cells #[.bool xl, .int .i64 xn, .slice xad xk xcap] 34)) (by simp) (fun b _ hl => Below.heap_alloc w5 _ b hl) (fun b _ hl => Below.heap_alloc w5 _ b hl)
            have hwK := VK.lt
            clear Z5 X5 V5 I5 hgK5 HXV
            have v0 := VK.cell 0
            have v1 := VK.cell 1
            have v2 := VK.cell 2
            simp only [List.getElem?_toArray, List.getElem?_cons_succ, List.getElem?_cons_zero] at v0 v1 v2
            have uv0 := VK.unfrozen 0
            have uv1 := VK.unfrozen 1
            have uv2 := VK.unfrozen 2
            go_wp2_with fail
            clear v0 v1 v2 uv0 uv1 uv2
            generalize w5.alloc (.cells #[.bool xl, .int .i64 xn, .slice xad xk xcap] 34) = WK at *
            have ZE := ((ZK.oth (w.heap.size + 1) 0 (by omega) (.bool true)).oth (w.heap.size + 1) 1 (by omega) (.int .i64 0)).oth (w.heap.size + 1) 2 (by omega) (.slice iad 0 icap)
            have XE := ((XK.oth (w.heap.size + 1) 0 (by omega) (.bool true)).oth (w.heap.size + 1) 1 (by omega) (.int .i64 0)).oth (w.heap.size + 1) 2 (by omega) (.slice iad 0 icap)
            have VE := ((VK.set 0 (.bool true)).set 1 (.int .i64 0)).set 2 (.slice iad 0 icap)
            simp only [List.setIfInBounds_toArray, List.set_cons_zero, List.set_cons_succ] at VE
            have hgE := grown_set (grown_set (grown_set hgK (w.heap.size + 1) 0 (.bool true) (.inr (by omega))) (w.heap.size + 1) 1 (.int .i64 0) (.inr (by omega))) (w.heap.size + 1) 2 (.slice iad 0 icap) (.inr (by omega))
            have hlo := IK.lt
            have IE := IK.keep (w' := ((WK.setCell ⟨w.heap.size + 1, 0, none⟩ (.bool true)).setCell ⟨w.heap.size + 1, 1, none⟩ (.int .i64 0)).setCell ⟨w.heap.size + 1, 2, none⟩ (.slice iad 0 icap)) (by simp only [size_setCell]; exact Nat.le_refl _) (fun b hb _ => by
              have := (hSE b hb).1
              rw [Below.heap_setCell _ _ _ _ (by dsimp only; omega), Below.heap_setCell _ _ _ _ (by dsimp only; omega), Below.heap_setCell _ _ _ _ (by dsimp only; omega)]) (fun b hb _ => by
              have := (hlo b hb).1
              rw [Below.heap_setCell _ _ _ _ (by dsimp only; omega), Below.heap_setCell _ _ _ _ (by dsimp only; omega), Below.heap_setCell _ _ _ _ (by dsimp only; omega)])
            clear ZK XK VK hgK IK
            generalize ((WK.setCell ⟨w.heap.size + 1, 0, none⟩ (.bool true)).setCell ⟨w.heap.size + 1, 1, none⟩ (.int .i64 0)).setCell ⟨w.heap.size + 1, 2, none⟩ (.slice iad 0 icap) = WE at *
            refine leaves_cons (f := 74) (args := #[.pointer (some ⟨w.heap.size, 0, none⟩)]) (by simp) (by simp [go_sem]) ?_
            refine (dec_deep pb w.heap.size _ (D + 1) _ XE ZE (by omega) (by omega)).mono ?_
            rintro e u' w'' ⟨rfl, rfl, rfl⟩
            obtain ⟨g1, g2, g3, g4⟩ := rd_end hlt ZE VE IE (fun b hb => (hSE b hb).1) hgE
            generalize WE.setCell ⟨pb, 1, none⟩ (.int .i64 (D + 1 - 1)) = WZ at *
            have d0 := g1.cell 0
            have d1 := g1.cell 1
            have d2 := g1.cell 2
            simp only [List.getElem?_toArray, List.getElem?_cons_succ, List.getElem?_cons_zero] at d0 d1 d2
            refine ⟨.tuple #[.agg #[.bool true, .int .i64 0, .slice iad 0 icap], .bool false], by simp [results, Tryd.results50, go_sem, d0, d1, d2], ?_⟩
            exact ⟨⟨_, rfl, g2⟩, g3, g4⟩
          | true =>
            have heq := heq
            rw [if_pos rfl] at heq
            have HR2 := Lib.hid heq
            clear heq
            have htk := HTK.out.2 rfl
            have hgB := grown_alloc (grown_alloc hgK5 (.cells #[.bool xl, .int .i64 xn, .slice xad xk xcap] 34)) (.cells #[.bool xl, .int .i64 xn, .slice xad xk xcap] 34)
            have ZC := (Z5.alloc (.cells #[.bool xl, .int .i64 xn, .slice xad xk xcap] 34)).alloc (.cells #[.bool xl, .int .i64 xn, .slice xad xk xcap] 34)
            have XC1 := (X5.alloc (.cells #[.bool xl, .int .i64 xn, .slice xad xk xcap] 34)).alloc (.cells #[.bool xl, .int .i64 xn, .slice xad xk xcap] 34)
            have VC := (V5.alloc (.cells #[.bool xl, .int .i64 xn, .slice xad xk xcap] 34)).alloc (.cells #[.bool xl, .int .i64 xn, .slice xad xk xcap] 34)
            have hb2 : Below w5.heap.size w5 ((w5.alloc (.cells #[.bool xl, .int .i64 xn, .slice xad xk xcap] 34)).alloc (.cells #[.bool xl, .int .i64 xn, .slice xad xk xcap] 34)) := by repeat (first | with_reducible assumption | with_reducible exact Below.refl _ _ | with_reducible apply Below.drew | (with_reducible refine Below.alloc ?_ (by first | omega | (simp only [zA, zS, zD, zN]; omega) | (dsimp only; omega) | (simp only [zA, zS, zD, zN]; dsimp only; omega)) _) | (with_reducible refine Below.setCell ?_ (by first | omega | (simp only [zA, zS, zD, zN]; omega) | (dsimp only; omega) | (simp only [zA, zS, zD, zN]; dsimp only; omega)) _) | (with_reducible apply below_drewN))
            have IC := I5.keep hb2.size (fun b _ hl => hb2.block b hl) (fun b _ hl => hb2.block b hl)
            have ZN : Blk ((w5.alloc (.cells #[.bool xl, .int .i64 xn, .slice xad xk xcap] 34)).alloc (.cells #[.bool xl, .int .i64 xn, .slice xad xk xcap] 34)) (w5.heap.size + 1) #[.bool xl, .int .i64 xn, .slice xad xk xcap] 34 := by simpa using Blk.new (w5.alloc (.cells #[.bool xl, .int .i64 xn, .slice xad xk xcap] 34)) #[.bool xl, .int .i64 xn, .slice xad xk xcap] 34
            have HVX : Hid (ValIn (fun b => wr.heap.size ≤ b ∧ b < w5.heap.size) ((w5.alloc (.cells #[.bool xl, .int .i64 xn, .slice xad xk xcap] 34)).alloc (.cells #[.bool xl, .int .i64 xn, .slice xad xk xcap] 34)) (.agg #[.bool xl, .int .i64 xn, .slice xad xk xcap]) xt) := HXV.out.keep hb2.size (fun b hb hl => ⟨⟨hb, hl⟩, hb2.block b hl⟩)
            have VA := V5.alloc (.cells #[.bool xl, .int .i64 xn, .slice xad xk xcap] 34)
            have NA : Blk (w5.alloc (.cells #[.bool xl, .int .i64 xn, .slice xad xk xcap] 34)) w5.heap.size #[.bool xl, .int .i64 xn, .slice xad xk xcap] 34 := Blk.new _ _ _
            have v0 := VA.cell 0
            have v1 := VA.cell 1
            have v2 := VA.cell 2
            simp only [List.getElem?_toArray, List.getElem?_cons_succ, List.getElem?_cons_zero] at v0 v1 v2
            have n0 := NA.cell 0
            have n1 := NA.cell 1
            have n2 := NA.cell 2
            simp only [List.getElem?_toArray, List.getElem?_cons_succ, List.getElem?_cons_zero] at n0 n1 n2
            have hzB : ((w5.alloc (.cells #[.bool xl, .int .i64 xn, .slice xad xk xcap] 34)).alloc (.cells #[.bool xl, .int .i64 xn, .slice xad xk xcap] 34)).heap.size = w5.heap.size + 1 + 1 := by simp
            have HZB := Lib.hid hzB
            clear hzB
            have hil : List.length ([] : List VT) ≤ 1000000000 := by first | omega | simp
            have HZC := Lib.hid ZC
            have HXB := Lib.hid XC1
            have HVC := Lib.hid VC
            have HIC := Lib.hid IC
            have HGB := Lib.hid hgB
            have HZN := Lib.hid ZN
            clear ZC XC1 VC IC hgB hb2 ZN Z5 X5 V5 I5 hgK5 VA NA HXV
            go_wp2_with (at_builtin; go_loud (refine wpl_append_at (o := ⟨some 124, _, _, _, _, _⟩) rfl _ _ 32 rfl (w.heap.size + 2) 34 Tryd.underlying32 info_value3 rfl (by decide) rfl HIC.out.own rfl (.inr ⟨⟨w5.heap.size + 1, 0, none⟩, 1, rfl, World.news_of_block HZN.out⟩) (by simp) (by simp [Value.oneCell']) (by unfold maxLen; omega) (by omega) (by have := HZB.out; omega) ?_; intro v6 w6 ho6 hg6 hnil6 hat6; have hlo := HIC.out.lt; have IT6 := Items.push HIC.out ho6 hg6 hat6 (fun b hb => by have := (hSE b hb).2; have := HZB.out; omega) (S2 := fun b => wr.heap.size ≤ b ∧ b < w5.heap.size) (fun b hb => ⟨by have := HZB.out; omega, fun e => by have := (HLQ.out b e).2; omega⟩) HVX.out; obtain ⟨vad, vcap, rfl, _⟩ := IT6.shape; have V6 : Blk w6 (w.heap.size + 1) #[.bool true, .int .i64 0, .slice iad 0 icap] 34 := (hg6.block _ HVC.out.lt (fun e => by have := (hlo _ e.symm).1; omega)).trans HVC.out; have v62 : w6.cell? ⟨w.heap.size + 1, 2, none⟩ = some (.slice iad 0 icap) := V6.cell 2; have u62 := V6.unfrozen 2))
            have e1 : (List.append ([] : List VT) [xt]).length = 1 := by simp
            have IT6' : Items w6 (w.heap.size + 2) (fun b => S b ∨ wr.heap.size ≤ b ∧ b < w5.heap.size) (.slice vad (1) vcap) (cs ++ [.bool xl, .int .i64 xn, .slice xad xk xcap]) (([] : List VT) ++ [xt]) := by rw [← e1]; exact IT6
            have hne : ∀ b, b < w.heap.size + 2 → ¬ Value.ownBlock (.slice iad (List.length ([] : List VT)) icap) = some b := fun b hb e => by have := (hlo b e).1; omega
            have Z6 : Blk w6 pb #[.string ⟨xs.toArray⟩, .int .i64 (D + 1)] 89 := (hg6.block _ HZC.out.lt (fun e => hne pb (by omega) e.symm)).trans HZC.out
            have X6 : Blk w6 w.heap.size #[.pointer (some ⟨pb, 0, none⟩)] 87 := (hg6.block _ HXB.out.lt (fun e => hne w.heap.size (by omega) e.symm)).trans HXB.out
            have Z7 := Z6.oth (w.heap.size + 1) 2 (by omega) (.slice vad (1) vcap)
            have X7 := X6.oth (w.heap.size + 1) 2 (by omega) (.slice vad (1) vcap)
            have V7 := V6.set 2 (.slice vad (1) vcap)
            simp only [List.setIfInBounds_toArray, List.set_cons_zero, List.set_cons_succ] at V7
            have hlo6 := IT6'.lt
            have hS6 : ∀ b, (S b ∨ wr.heap.size ≤ b ∧ b < w5.heap.size) → w.heap.size + 2 ≤ b := fun b hb => by
              rcases hb with hb | hb
              · exact (hSE b hb).1
              · omega
            have IT7 := IT6'.keep (w' := w6.setCell ⟨w.heap.size + 1, 2, none⟩ (.slice vad (1) vcap)) (by rw [size_setCell]; exact Nat.le_refl _) (fun b hb _ => by have := hS6 b hb; exact Below.heap_setCell _ _ _ _ (by dsimp only; omega)) (fun b hb _ => by have := (hlo6 b hb).1; exact Below.heap_setCell _ _ _ _ (by dsimp only; omega))
            have h56 := hg6.size
            have hzB := HZB.out
            have hg7 := grown_set (grown_own2 HGB.out hg6 (fun b hb => by have := hlo b hb; omega)) (w.heap.size + 1) 2 (.slice vad (1) vcap) (.inr (by omega))
            have HN : Hid (RdI d w pb D R gk (([] : List VT) ++ [xt]) xs (.slice vad (1) vcap) (cs ++ [.bool xl, .int .i64 xn, .slice xad xk xcap]) (fun b => S b ∨ wr.heap.size ≤ b ∧ b < w5.heap.size) (w6.setCell ⟨w.heap.size + 1, 2, none⟩ (.slice vad (1) vcap))) :=
              ⟨HR2.out, by omega, by rw [List.length_append, List.length_singleton]; (try simp only [List.length_nil]); omega, Z7, V7, X7, IT7, fun b hb => ⟨hS6 b hb, by
                rw [size_setCell]
                rcases hb with hb | hb
                · have := (hSE b hb).2; omega
                · omega⟩, hg7⟩
            go_roundg gk
            case measure => omega
            case rel => exact ⟨_, _, _, _, _, HN.out⟩
        · have hie : items.isEmpty = false := by cases items with
            | nil => exact absurd rfl hemp
            | cons x t => rfl
          have p18 : 0 < items.length := List.length_pos_iff.2 hemp
          go_wp2_with fail
          refine (cutp_any ⟨s'.toArray⟩ ⟨#[32]⟩ _).mono ?_
          rintro e w1 ⟨rfl, hw⟩
          rw [hw, show (⟨s'.toArray⟩ : ByteArray).data.toList = s' from rfl, show (⟨#[32]⟩ : ByteArray).data.toList = [32] from rfl]
          clear hw w1
          by_cases h32 : Lib.hasPrefix s' [32] = true
          · obtain ⟨s2, hs2⟩ : ∃ s2, s2 = s'.drop 1 := ⟨_, rfl⟩
            have htp : Lib.trimPrefix s' [32] = s2 := by unfold Lib.trimPrefix; rw [if_pos h32, hs2]; rfl
            have enx : nxt items s' = s2 := by unfold nxt; rw [if_neg (by rw [hie]; simp), hs2]
            rw [if_neg (by rw [h32]; simp), enx] at heq
            rw [h32, htp]
            have hsl : s2.length ≤ s'.length := by rw [hs2]; simp
            have hsq : s2.length ≤ 1000000000 := by omega
            clear htp enx hs2 h32 h41 h41f
            go_wp2_with fail
            have ZQ := ZR.set 0 (.string ⟨s2.toArray⟩)
            have XQ := XR.oth pb 0 (by omega) (.string ⟨s2.toArray⟩)
            have VQ := VR.oth pb 0 (by omega) (.string ⟨s2.toArray⟩)
            simp only [List.setIfInBounds_toArray, List.set_cons_zero, List.set_cons_succ] at ZQ
            have hgQ := grown_set HG.out pb 0 (.string ⟨s2.toArray⟩) (.inl rfl)
            have hSE : ∀ b, S b → w.heap.size + 2 ≤ b ∧ b < (wr.setCell ⟨pb, 0, none⟩ (.string ⟨s2.toArray⟩)).heap.size := by rw [size_setCell]; exact HS.out
            have IQ := HIT.out.keep (w' := wr.setCell ⟨pb, 0, none⟩ (.string ⟨s2.toArray⟩)) (by rw [size_setCell]; exact Nat.le_refl _) (fun b hb _ => by have := (hSE b hb).1; exact Below.heap_setCell _ _ _ _ (by dsimp only; omega)) (fun b hb _ => by have := (HIT.out.lt b hb).1; exact Below.heap_setCell _ _ _ _ (by dsimp only; omega))
            clear x0 z0 z1 v0 v1 v2 uz0 uz1 uv0 uv1 uv2 ZR XR VR HIT HG HS hpv
            generalize wr.setCell ⟨pb, 0, none⟩ (.string ⟨s2.toArray⟩) = WQ at *
            have HZQ := Lib.hid ZQ
            have hltQ := ZQ.lt
            have hwQ := VQ.lt
            refine (IH.out s2 pb WQ (HE.out.grown HB.out hgQ) hsq ZQ).mono ?_
            rintro e w5 ⟨⟨xv, rfl, hxv⟩, Z5, hg5⟩
            have hsz5 := hg5.size
            have X5 : Blk w5 w.heap.size #[.pointer (some ⟨pb, 0, none⟩)] 87 := (hg5.block _ XQ.lt (fun e => by have := Option.some.inj e; omega)).trans XQ
            have V5 : Blk w5 (w.heap.size + 1) #[.bool true, .int .i64 0, .slice iad items.length icap] 34 := (hg5.block _ VQ.lt (fun e => by have := Option.some.inj e; omega)).trans VQ
            have I5 := IQ.keep hsz5 (fun b hb hl => hg5.block b hl (fun e => by have := Option.some.inj e; have := (hSE b hb).1; omega)) (fun b hb hl => hg5.block b hl (fun e => by have := Option.some.inj e; have := (IQ.lt b hb).1; omega))
            have hgK5 := grown_trans hgQ hg5
            have HLQ := Lib.hid IQ.lt
            have HTK := Lib.hid (rdV_takes d s2)
            obtain ⟨xl, xn, xk, xad, xcap, rfl⟩ := hxv.shape
            have HXV := Lib.hid hxv
            clear hxv hg5 XQ VQ IQ hgQ HZQ ZQ
            generalize rdV d s2 = rr at *
            obtain ⟨xt, xo, xs⟩ := rr
            dsimp only at *
            cases xo with
            | false =>
              have heq := heq
              rw [if_neg (by decide)] at heq
              subst heq
              have ZK := Z5.alloc (.cells #[.bool xl, .int .i64 xn, .slice xad xk xcap] 34)
              have XK := X5.alloc (.cells #[.bool xl, .int .i64 xn, .slice xad xk xcap] 34)
              have VK := V5.alloc (.cells #[.bool xl, .int .i64 xn, .slice xad xk xcap] 34)
              have hgK := grown_alloc hgK5 (.cells #[.bool xl, .int .i64 xn, .slice xad xk xcap] 34)
              have IK := I5.keep (w' := w5.alloc (.cells #[.bool xl, .int .i64 xn, .slice xad xk xcap] 34)) (by simp) (fun b _ hl => Below.heap_alloc w5 _ b hl) (fun b _ hl => Below.heap_alloc w5 _ b hl)
              have hwK := VK.lt
              clear Z5 X5 V5 I5 hgK5 HXV
              have v0 := VK.cell 0
              have v1 := VK.cell 1
              have v2 := VK.cell 2
              simp only [List.getElem?_toArray, List.getElem?_cons_succ, List.getElem?_cons_zero] at v0 v1 v2
              have uv0 := VK.unfrozen 0
              have uv1 := VK.unfrozen 1
              have uv2 := VK.unfrozen 2
              go_wp2_with fail
              clear v0 v1 v2 uv0 uv1 uv2
              generalize w5.alloc (.cells #[.bool xl, .int .i64 xn, .slice xad xk xcap] 34) = WK at *
              have ZE := ((ZK.oth (w.heap.size + 1) 0 (by omega) (.bool true)).oth (w.heap.size + 1) 1 (by omega) (.int .i64 0)).oth (w.heap.size + 1) 2 (by omega) (.slice iad items.length icap)
              have XE := ((XK.oth (w.heap.size + 1) 0 (by omega) (.bool true)).oth (w.heap.size + 1) 1 (by omega) (.int .i64 0)).oth (w.heap.size + 1) 2 (by omega) (.slice iad items.length icap)
              have VE := ((VK.set 0 (.bool true)).set 1 (.int .i64 0)).set 2 (.slice iad items.length icap)
              simp only [List.setIfInBounds_toArray, List.set_cons_zero, List.set_cons_succ] at VE
              have hgE := grown_set (grown_set (grown_set hgK (w.heap.size + 1) 0 (.bool true) (.inr (by omega))) (w.heap.size + 1) 1 (.int .i64 0) (.inr (by omega))) (w.heap.size + 1) 2 (.slice iad items.length icap) (.inr (by omega))
              have hlo := IK.lt
              have IE := IK.keep (w' := ((WK.setCell ⟨w.heap.size + 1, 0, none⟩ (.bool true)).setCell ⟨w.heap.size + 1, 1, none⟩ (.int .i64 0)).setCell ⟨w.heap.size + 1, 2, none⟩ (.slice iad items.length icap)) (by simp only [size_setCell]; exact Nat.le_refl _) (fun b hb _ => by
                have := (hSE b hb).1
                rw [Below.heap_setCell _ _ _ _ (by dsimp only; omega), Below.heap_setCell _ _ _ _ (by dsimp only; omega), Below.heap_setCell _ _ _ _ (by dsimp only; omega)]) (fun b hb _ => by
                have := (hlo b hb).1
                rw [Below.heap_setCell _ _ _ _ (by dsimp only; omega), Below.heap_setCell _ _ _ _ (by dsimp only; omega), Below.heap_setCell _ _ _ _ (by dsimp only; omega)])
              clear ZK XK VK hgK IK
              generalize ((WK.setCell ⟨w.heap.size + 1, 0, none⟩ (.bool true)).setCell ⟨w.heap.size + 1, 1, none⟩ (.int .i64 0)).setCell ⟨w.heap.size + 1, 2, none⟩ (.slice iad items.length icap) = WE at *
              refine leaves_cons (f := 74) (args := #[.pointer (some ⟨w.heap.size, 0, none⟩)]) (by simp) (by simp [go_sem]) ?_
              refine (dec_deep pb w.heap.size _ (D + 1) _ XE ZE (by omega) (by omega)).mono ?_
              rintro e u' w'' ⟨rfl, rfl, rfl⟩
              obtain ⟨g1, g2, g3, g4⟩ := rd_end hlt ZE VE IE (fun b hb => (hSE b hb).1) hgE
              generalize WE.setCell ⟨pb, 1, none⟩ (.int .i64 (D + 1 - 1)) = WZ at *
              have d0 := g1.cell 0
              have d1 := g1.cell 1
              have d2 := g1.cell 2
              simp only [List.getElem?_toArray, List.getElem?_cons_succ, List.getElem?_cons_zero] at d0 d1 d2
              refine ⟨.tuple #[.agg #[.bool true, .int .i64 0, .slice iad items.length icap], .bool false], by simp [results, Tryd.results50, go_sem, d0, d1, d2], ?_⟩
              exact ⟨⟨_, rfl, g2⟩, g3, g4⟩
            | true =>
              have heq := heq
              rw [if_pos rfl] at heq
              have HR2 := Lib.hid heq
              clear heq
              have htk := HTK.out.2 rfl
              have hgB := grown_alloc (grown_alloc hgK5 (.cells #[.bool xl, .int .i64 xn, .slice xad xk xcap] 34)) (.cells #[.bool xl, .int .i64 xn, .slice xad xk xcap] 34)
              have ZC := (Z5.alloc (.cells #[.bool xl, .int .i64 xn, .slice xad xk xcap] 34)).alloc (.cells #[.bool xl, .int .i64 xn, .slice xad xk xcap] 34)
              have XC1 := (X5.alloc (.cells #[.bool xl, .int .i64 xn, .slice xad xk xcap] 34)).alloc (.cells #[.bool xl, .int .i64 xn, .slice xad xk xcap] 34)
              have VC := (V5.alloc (.cells #[.bool xl, .int .i64 xn, .slice xad xk xcap] 34)).alloc (.cells #[.bool xl, .int .i64 xn, .slice xad xk xcap] 34)
              have hb2 : Below w5.heap.size w5 ((w5.alloc (.cells #[.bool xl, .int .i64 xn, .slice xad xk xcap] 34)).alloc (.cells #[.bool xl, .int .i64 xn, .slice xad xk xcap] 34)) := by repeat (first | with_reducible assumption | with_reducible exact Below.refl _ _ | with_reducible apply Below.drew | (with_reducible refine Below.alloc ?_ (by first | omega | (simp only [zA, zS, zD, zN]; omega) | (dsimp only; omega) | (simp only [zA, zS, zD, zN]; dsimp only; omega)) _) | (with_reducible refine Below.setCell ?_ (by first | omega | (simp only [zA, zS, zD, zN]; omega) | (dsimp only; omega) | (simp only [zA, zS, zD, zN]; dsimp only; omega)) _) | (with_reducible apply below_drewN))
              have IC := I5.keep hb2.size (fun b _ hl => hb2.block b hl) (fun b _ hl => hb2.block b hl)
              have ZN : Blk ((w5.alloc (.cells #[.bool xl, .int .i64 xn, .slice xad xk xcap] 34)).alloc (.cells #[.bool xl, .int .i64 xn, .slice xad xk xcap] 34)) (w5.heap.size + 1) #[.bool xl, .int .i64 xn, .slice xad xk xcap] 34 := by simpa using Blk.new (w5.alloc (.cells #[.bool xl, .int .i64 xn, .slice xad xk xcap] 34)) #[.bool xl, .int .i64 xn, .slice xad xk xcap] 34
              have HVX : Hid (ValIn (fun b => WQ.heap.size ≤ b ∧ b < w5.heap.size) ((w5.alloc (.cells #[.bool xl, .int .i64 xn, .slice xad xk xcap] 34)).alloc (.cells #[.bool xl, .int .i64 xn, .slice xad xk xcap] 34)) (.agg #[.bool xl, .int .i64 xn, .slice xad xk xcap]) xt) := HXV.out.keep hb2.size (fun b hb hl => ⟨⟨hb, hl⟩, hb2.block b hl⟩)
              have VA := V5.alloc (.cells #[.bool xl, .int .i64 xn, .slice xad xk xcap] 34)
              have NA : Blk (w5.alloc (.cells #[.bool xl, .int .i64 xn, .slice xad xk xcap] 34)) w5.heap.size #[.bool xl, .int .i64 xn, .slice xad xk xcap] 34 := Blk.new _ _ _
              have v0 := VA.cell 0
              have v1 := VA.cell 1
              have v2 := VA.cell 2
              simp only [List.getElem?_toArray, List.getElem?_cons_succ, List.getElem?_cons_zero] at v0 v1 v2
              have n0 := NA.cell 0
              have n1 := NA.cell 1
              have n2 := NA.cell 2
              simp only [List.getElem?_toArray, List.getElem?_cons_succ, List.getElem?_cons_zero] at n0 n1 n2
              have hzB : ((w5.alloc (.cells #[.bool xl, .int .i64 xn, .slice xad xk xcap] 34)).alloc (.cells #[.bool xl, .int .i64 xn, .slice xad xk xcap] 34)).heap.size = w5.heap.size + 1 + 1 := by simp
              have HZB := Lib.hid hzB
              clear hzB
              have hil : List.length items ≤ 1000000000 := by first | omega | simp
              have HZC := Lib.hid ZC
              have HXB := Lib.hid XC1
              have HVC := Lib.hid VC
              have HIC := Lib.hid IC
              have HGB := Lib.hid hgB
              have HZN := Lib.hid ZN
              clear ZC XC1 VC IC hgB hb2 ZN Z5 X5 V5 I5 hgK5 VA NA HXV
              go_wp2_with (at_builtin; go_loud (refine wpl_append_at (o := ⟨some 124, _, _, _, _, _⟩) rfl _ _ 32 rfl (w.heap.size + 2) 34 Tryd.underlying32 info_value3 rfl (by decide) rfl HIC.out.own rfl (.inr ⟨⟨w5.heap.size + 1, 0, none⟩, 1, rfl, World.news_of_block HZN.out⟩) (by simp) (by simp [Value.oneCell']) (by unfold maxLen; omega) (by omega) (by have := HZB.out; omega) ?_; intro v6 w6 ho6 hg6 hnil6 hat6; have hlo := HIC.out.lt; have IT6 := Items.push HIC.out ho6 hg6 hat6 (fun b hb => by have := (hSE b hb).2; have := HZB.out; omega) (S2 := fun b => WQ.heap.size ≤ b ∧ b < w5.heap.size) (fun b hb => ⟨by have := HZB.out; omega, fun e => by have := (HLQ.out b e).2; omega⟩) HVX.out; obtain ⟨vad, vcap, rfl, _⟩ := IT6.shape; have V6 : Blk w6 (w.heap.size + 1) #[.bool true, .int .i64 0, .slice iad items.length icap] 34 := (hg6.block _ HVC.out.lt (fun e => by have := (hlo _ e.symm).1; omega)).trans HVC.out; have v62 : w6.cell? ⟨w.heap.size + 1, 2, none⟩ = some (.slice iad items.length icap) := V6.cell 2; have u62 := V6.unfrozen 2))
              have e1 : (List.append items [xt]).length = items.length + 1 := by simp
              have IT6' : Items w6 (w.heap.size + 2) (fun b => S b ∨ WQ.heap.size ≤ b ∧ b < w5.heap.size) (.slice vad (items.length + 1) vcap) (cs ++ [.bool xl, .int .i64 xn, .slice xad xk xcap]) (items ++ [xt]) := by rw [← e1]; exact IT6
              have hne : ∀ b, b < w.heap.size + 2 → ¬ Value.ownBlock (.slice iad (List.length items) icap) = some b := fun b hb e => by have := (hlo b e).1; omega
              have Z6 : Blk w6 pb #[.string ⟨xs.toArray⟩, .int .i64 (D + 1)] 89 := (hg6.block _ HZC.out.lt (fun e => hne pb (by omega) e.symm)).trans HZC.out
              have X6 : Blk w6 w.heap.size #[.pointer (some ⟨pb, 0, none⟩)] 87 := (hg6.block _ HXB.out.lt (fun e => hne w.heap.size (by omega) e.symm)).trans HXB.out
              have Z7 := Z6.oth (w.heap.size + 1) 2 (by omega) (.slice vad (items.length + 1) vcap)
              have X7 := X6.oth (w.heap.size + 1) 2 (by omega) (.slice vad (items.length + 1) vcap)
              have V7 := V6.set 2 (.slice vad (items.length + 1) vcap)
              simp only [List.setIfInBounds_toArray, List.set_cons_zero, List.set_cons_succ] at V7
              have hlo6 := IT6'.lt
              have hS6 : ∀ b, (S b ∨ WQ.heap.size ≤ b ∧ b < w5.heap.size) → w.heap.size + 2 ≤ b := fun b hb => by
                rcases hb with hb | hb
                · exact (hSE b hb).1
                · omega
              have IT7 := IT6'.keep (w' := w6.setCell ⟨w.heap.size + 1, 2, none⟩ (.slice vad (items.length + 1) vcap)) (by rw [size_setCell]; exact Nat.le_refl _) (fun b hb _ => by have := hS6 b hb; exact Below.heap_setCell _ _ _ _ (by dsimp only; omega)) (fun b hb _ => by have := (hlo6 b hb).1; exact Below.heap_setCell _ _ _ _ (by dsimp only; omega))
              have h56 := hg6.size
              have hzB := HZB.out
              have hg7 := grown_set (grown_own2 HGB.out hg6 (fun b hb => by have := hlo b hb; omega)) (w.heap.size + 1) 2 (.slice vad (items.length + 1) vcap) (.inr (by omega))
              have HN : Hid (RdI d w pb D R gk (items ++ [xt]) xs (.slice vad (items.length + 1) vcap) (cs ++ [.bool xl, .int .i64 xn, .slice xad xk xcap]) (fun b => S b ∨ WQ.heap.size ≤ b ∧ b < w5.heap.size) (w6.setCell ⟨w.heap.size + 1, 2, none⟩ (.slice vad (items.length + 1) vcap))) :=
                ⟨HR2.out, by omega, by rw [List.length_append, List.length_singleton]; (try simp only [List.length_nil]); omega, Z7, V7, X7, IT7, fun b hb => ⟨hS6 b hb, by
                  rw [size_setCell]
                  rcases hb with hb | hb
                  · have := (hSE b hb).2; omega
                  · omega⟩, hg7⟩
              go_roundg gk
              case measure => omega
              case rel => exact ⟨_, _, _, _, _, HN.out⟩
          · have h32f : Lib.hasPrefix s' [32] = false := by simpa using h32
            rw [if_pos ⟨hie, h32f⟩] at heq
            subst heq
            rw [h32f]
            have hSE := HS.out
            have ZK := ZR
            have XK := XR
            have VK := VR
            have IK := HIT.out
            have hgK := HG.out
            go_wp2_with fail
            clear x0 z0 z1 v0 v1 v2 uz0 uz1 uv0 uv1 uv2 h32f h32 h41 h41f
            generalize wr = WK at *
            have ZE := ((ZK.oth (w.heap.size + 1) 0 (by omega) (.bool true)).oth (w.heap.size + 1) 1 (by omega) (.int .i64 0)).oth (w.heap.size + 1) 2 (by omega) (.slice iad items.length icap)
            have XE := ((XK.oth (w.heap.size + 1) 0 (by omega) (.bool true)).oth (w.heap.size + 1) 1 (by omega) (.int .i64 0)).oth (w.heap.size + 1) 2 (by omega) (.slice iad items.length icap)
            have VE := ((VK.set 0 (.bool true)).set 1 (.int .i64 0)).set 2 (.slice iad items.length icap)
            simp only [List.setIfInBounds_toArray, List.set_cons_zero, List.set_cons_succ] at VE
            have hgE := grown_set (grown_set (grown_set hgK (w.heap.size + 1) 0 (.bool true) (.inr (by omega))) (w.heap.size + 1) 1 (.int .i64 0) (.inr (by omega))) (w.heap.size + 1) 2 (.slice iad items.length icap) (.inr (by omega))
            have hlo := IK.lt
            have IE := IK.keep (w' := ((WK.setCell ⟨w.heap.size + 1, 0, none⟩ (.bool true)).setCell ⟨w.heap.size + 1, 1, none⟩ (.int .i64 0)).setCell ⟨w.heap.size + 1, 2, none⟩ (.slice iad items.length icap)) (by simp only [size_setCell]; exact Nat.le_refl _) (fun b hb _ => by
              have := (hSE b hb).1
              rw [Below.heap_setCell _ _ _ _ (by dsimp only; omega), Below.heap_setCell _ _ _ _ (by dsimp only; omega), Below.heap_setCell _ _ _ _ (by dsimp only; omega)]) (fun b hb _ => by
              have := (hlo b hb).1
              rw [Below.heap_setCell _ _ _ _ (by dsimp only; omega), Below.heap_setCell _ _ _ _ (by dsimp only; omega), Below.heap_setCell _ _ _ _ (by dsimp only; omega)])
            clear ZK XK VK hgK IK
            generalize ((WK.setCell ⟨w.heap.size + 1, 0, none⟩ (.bool true)).setCell ⟨w.heap.size + 1, 1, none⟩ (.int .i64 0)).setCell ⟨w.heap.size + 1, 2, none⟩ (.slice iad items.length icap) = WE at *
            refine leaves_cons (f := 74) (args := #[.pointer (some ⟨w.heap.size, 0, none⟩)]) (by simp) (by simp [go_sem]) ?_
            refine (dec_deep pb w.heap.size _ (D + 1) _ XE ZE (by omega) (by omega)).mono ?_
            rintro e u' w'' ⟨rfl, rfl, rfl⟩
            obtain ⟨g1, g2, g3, g4⟩ := rd_end hlt ZE VE IE (fun b hb => (hSE b hb).1) hgE
            generalize WE.setCell ⟨pb, 1, none⟩ (.int .i64 (D + 1 - 1)) = WZ at *
            have d0 := g1.cell 0
            have d1 := g1.cell 1
            have d2 := g1.cell 2
            simp only [List.getElem?_toArray, List.getElem?_cons_succ, List.getElem?_cons_zero] at d0 d1 d2
            refine ⟨.tuple #[.agg #[.bool true, .int .i64 0, .slice iad items.length icap], .bool false], by simp [results, Tryd.results50, go_sem, d0, d1, d2], ?_⟩
            exact ⟨⟨_, rfl, g2⟩, g3, g4⟩
/-- The reader, whatever the text. -/
theorem reader_any (CX : IdxAny) : ∀ (d : Nat) (s : List UInt8) (pb : Nat) (w : World), d ≤ 7 → NumErrsAt w → s.length ≤ 1000000000 → Blk w pb #[.string ⟨s.toArray⟩, .int .i64 (7 - (d : Int))] 89 →
    Calls Tryd.prog 50 #[.pointer (some ⟨pb, 0, none⟩)] w (RdR pb w (7 - (d : Int)) (rdV d s)) := by
  intro d
  induction d with
  | zero => intro s pb w _ hE hs hb; exact reader_zero s pb w _ (by simp) hb
  | succ d ih =>
    intro s pb w hd hE hs hb
    by_cases hp : Lib.hasPrefix s [40] = true
    · have e : rdV (d + 1) s = (.mk true 0 (rdL (rdV d) (s.length + 1) [] (s.drop 1)).1, (rdL (rdV d) (s.length + 1) [] (s.drop 1)).2.1, (rdL (rdV d) (s.length + 1) [] (s.drop 1)).2.2) := by
        show rdV (d + 1) s = _
        rw [rdV, if_pos hp]
      rw [e]
      have e7 : (7 - ((d + 1 : Nat) : Int)) + 1 = 7 - (d : Int) := by omega
      refine reader_list d s pb w _ _ (Lib.hid rfl) (by omega) (by omega) (Lib.hid fun s pb w hE hs hb => ?_) hp hE hs hb
      rw [e7] at hb ⊢
      exact ih s pb w (by omega) hE hs hb
    · have hq : Lib.hasPrefix s [40] = false := by simpa using hp
      have e : rdV (d + 1) s = (.mk false (numR (s.take (cutN s))) [], numOk (s.take (cutN s)), s.drop (cutN s)) := by
        show rdV (d + 1) s = _
        rw [rdV, if_neg hp]
      rw [e]
      exact reader_leaf CX s pb w _ _ _ _ (Lib.hid rfl) (Lib.hid rfl) (Lib.hid rfl) (by omega) (by omega) hq hE hs hb
end Go.Proofs.YtlhdiekibkdiaaaDoor
