/- The walks through the reference's Cut and TapeOf. -/
import Derived.Test.YtlhdiekibkdiaaaDoorTCT
import Derived.Test.YtlhdiekibkdiaaaDoorRNU
import Derived.Test.YtlhdiekibkdiaaaDoorVTX
namespace Go.Proofs.YtlhdiekibkdiaaaDoor
set_option maxRecDepth 100000
open Go.RowKit
set_option linter.unusedSimpArgs false
set_option linter.unusedVariables false
theorem at_byte {s : List UInt8} {a : Nat} {c : UInt8} {r : List UInt8} (h : s.drop a = c :: r) : a < s.length ∧ (∀ hh, (⟨s.toArray⟩ : ByteArray)[a]'hh = c) ∧ s.drop (a + 1) = r := by
  have hl : a < s.length := by
    rcases Nat.lt_or_ge a s.length with h' | h'
    · exact h'
    · rw [List.drop_eq_nil_of_le h'] at h; cases h
  rw [List.drop_eq_getElem_cons hl] at h
  obtain ⟨h1, h2⟩ := List.cons.inj h
  exact ⟨hl, fun hh => by rw [← h1]; rfl, h2⟩
theorem ext_bytes (s : List UInt8) (a b : Nat) : (⟨s.toArray⟩ : ByteArray).extract a b = ⟨((s.drop a).take (b - a)).toArray⟩ := by
  have := Lib.extract_data ⟨s.toArray⟩ a b
  apply ByteArray.ext
  apply Array.ext'
  rw [this]
theorem one_int {w : World} {bl : Nat} (x : Int) (hx : In64 x) (h : Blk w bl #[.int .i64 x] 3) : IntsAt w (.slice (some ⟨bl, 0, none⟩) 1 1) [x] := by
  refine ⟨by simpa using hx, .inr ⟨_, 1, rfl, by simp, by decide, fun i hi => ?_⟩⟩
  have : i = 0 := by simpa using hi
  subst this
  exact h.cell 0
/-- Where the cutting stands. -/
def CutI (s : List UInt8) (ps : List (List UInt8)) (f i : Nat) : Prop := f ≤ i ∧ i ≤ s.length ∧ cutA [] s = ps ++ cutA ((s.drop f).take (i - f)) (s.drop i)
theorem CutI.zero (s : List UInt8) : CutI s [] 0 0 := ⟨Nat.le_refl _, Nat.zero_le _, by simp⟩
theorem CutI.dot {s : List UInt8} {ps : List (List UInt8)} {f i : Nat} {r : List UInt8} (h : CutI s ps f i) (hd : s.drop i = 46 :: r) : CutI s (ps ++ [(s.drop f).take (i - f)]) (i + 1) (i + 1) := by
  obtain ⟨hl, _, hn⟩ := at_byte hd
  refine ⟨Nat.le_refl _, hl, ?_⟩
  rw [h.2.2, hd, cutA, if_pos rfl, hn]
  simp
theorem CutI.on {s : List UInt8} {ps : List (List UInt8)} {f i : Nat} {c : UInt8} {r : List UInt8} (h : CutI s ps f i) (hd : s.drop i = c :: r) (hc : c ≠ 46) : CutI s ps f (i + 1) := by
  obtain ⟨hl, _, hn⟩ := at_byte hd
  refine ⟨by have := h.1; omega, hl, ?_⟩
  rw [h.2.2, hd, cutA, if_neg hc, hn]
  have e : (s.drop f).take (i + 1 - f) = (s.drop f).take (i - f) ++ [c] := by
    have h1 := h.1
    rw [show i + 1 - f = (i - f) + 1 by omega, List.take_add_one]
    congr 1
    rw [List.getElem?_drop, show f + (i - f) = i by omega]
    have : (s.drop i)[0]? = some c := by rw [hd]; rfl
    rw [List.getElem?_drop, Nat.add_zero] at this
    rw [this]; rfl
  rw [e]
theorem CutI.last {s : List UInt8} {ps : List (List UInt8)} {f : Nat} (h : CutI s ps f s.length) : cutA [] s = ps ++ [s.drop f] := by
  rw [h.2.2, List.drop_length, cutA, List.take_of_length_le (by simp)]
theorem CutI.len {s : List UInt8} {ps : List (List UInt8)} {f i : Nat} (h : CutI s ps f i) : ps.length ≤ s.length + 1 := by
  have := cutA_len s []
  rw [h.2.2, List.length_append] at this
  omega
set_option maxHeartbeats 4000000 in
theorem rcut_any (s : List UInt8) (hs : s.length ≤ 100000000) (w : World) : Calls Tryd.prog 52 #[.string ⟨s.toArray⟩, .int .u8 46] w fun e w' => (∃ v, e = .returned v ∧ RwAt StrS w' (fun b => w.heap.size ≤ b) v (cutA [] s)) ∧ Below w.heap.size w w' := by
  go_enter Tryd.func52, Tryd.ntmps52
  go_wp2_with fail
  go_loopw [5, 6, 7] (fun o fr i wr => ∃ (ps : List (List UInt8)) (f j : Nat), fr = .int .i64 f ∧ i = .int .i64 j ∧ Below w.heap.size w wr ∧ Hid (CutI s ps f j) ∧ Hid (OwnRw StrS 9 wr w.heap.size o ps)) (fun _ _ i _ => s.length - (intOf i).toNat)
  case atStart => exact ⟨[], 0, 0, rfl, rfl, Below.refl _ _, CutI.zero s, OwnRw.nil _ _ _ _⟩
  case round =>
    obtain ⟨ps, f, j, rfl, rfl, hb2, HC, HO⟩ := hrel
    have hzr := hb2.size
    have hfj := HC.out.1
    have hjl := HC.out.2.1
    have hpl := HC.out.len
    have hln : ps.length ≤ 1000000000 := by omega
    have hol := HO.out.lt
    cases hdj : s.drop j with
    | nil =>
      have hje : j = s.length := by have := congrArg List.length hdj; simp at this; omega
      have q0 : ¬ (j : Int) < (s.length : Int) := by omega
      clear hdj
      subst hje
      have q1 : (f : Int) ≤ (s.length : Int) := by omega
      have HL := Lib.hid HC.out.last
      obtain ⟨tx, htx⟩ : ∃ tx, tx = s.drop f := ⟨_, rfl⟩
      have HEX : Hid ((⟨s.toArray⟩ : ByteArray).extract f s.length = ⟨tx.toArray⟩) := by show _ = _; rw [ext_bytes, List.take_of_length_le (by simp), htx]
      have HL2 : Hid (cutA [] s = ps ++ [tx]) := by rw [htx]; exact HL
      clear HC hpl hjl HL htx
      have HBA : Hid (Below wr.heap.size wr (wr.alloc (.cells #[.string ((⟨s.toArray⟩ : ByteArray).extract f s.length)] 9))) := (Below.refl _ _).alloc (Nat.le_refl _) _
      go_wp2_with (at_builtin; refine append_st (B := ps) (o := ⟨some 33, _, _, _, _, _⟩) (y := tx) rfl _ _ rfl rfl (HO.out.keep StrS.reads HBA.out) rfl (Blk.new _ _ _) (by rw [HEX.out]) hln (by have := HBA.out.size; omega) ?_; intro o6 w6 ho6 hg6 hat6)
      have hB6 : Below w.heap.size w w6 := (hb2.trans (HBA.out.mono hzr)).grown hg6 (by have := HBA.out.size; omega) (fun x hx => (hol x hx).1)
      have HR := Lib.hid (ho6.at StrS.reads)
      clear ho6 hg6 hat6
      go_ret
      exact ⟨⟨_, rfl, by rw [HL2.out]; exact HR.out⟩, hB6⟩
    | cons c r =>
      obtain ⟨hlj, kb, hnx⟩ := at_byte hdj
      have q0 : (j : Int) < (s.length : Int) := by omega
      by_cases hc : c = 46
      · subst hc
        have HC2 := Lib.hid (HC.out.dot hdj)
        obtain ⟨tx, htx⟩ : ∃ tx, tx = (s.drop f).take (j - f) := ⟨_, rfl⟩
        have HEX : Hid ((⟨s.toArray⟩ : ByteArray).extract f j = ⟨tx.toArray⟩) := by show _ = _; rw [ext_bytes, htx]
        rw [← htx] at HC2
        clear HC hdj hnx htx
        have q1 : (f : Int) ≤ (j : Int) := by omega
        have q2 : (j : Int) ≤ (s.length : Int) := by omega
        have HBA : Hid (Below wr.heap.size wr (wr.alloc (.cells #[.string ((⟨s.toArray⟩ : ByteArray).extract f j)] 9))) := (Below.refl _ _).alloc (Nat.le_refl _) _
        go_wp2_with (at_builtin; refine append_st (B := ps) (o := ⟨some 25, _, _, _, _, _⟩) (y := tx) rfl _ _ rfl rfl (HO.out.keep StrS.reads HBA.out) rfl (Blk.new _ _ _) (by rw [HEX.out]) hln (by have := HBA.out.size; omega) ?_; intro o6 w6 ho6 hg6 hat6)
        have hB6 : Below w.heap.size w w6 := (hb2.trans (HBA.out.mono hzr)).grown hg6 (by have := HBA.out.size; omega) (fun x hx => (hol x hx).1)
        have HO6 := Lib.hid ho6
        clear ho6 hg6 hat6
        exact ⟨⟨_, j + 1, j + 1, by go_num, by go_num, hB6, HC2, HO6⟩, by simp [intOf]; omega⟩
      · have k46 : ((c.toNat : Int) == 46) = false := by
          have : c.toNat ≠ 46 := fun e => hc (UInt8.toNat_inj.1 e)
          simp; omega
        have HC2 := Lib.hid (HC.out.on hdj hc)
        clear HC hdj hnx hc
        go_wp2_with fail
        exact ⟨⟨ps, f, j + 1, rfl, by go_num, hb2, HC2, HO⟩, by simp [intOf]; omega⟩
/-- What TapeOf tells. -/
def TofR (w : World) (s : List UInt8) (e : Ending) (w' : World) : Prop :=
  ((∃ v l, e = .returned (.tuple #[v, .bool true]) ∧ IntsAt w' v l ∧ IsTape s l) ∨ (e = .returned (.tuple #[.slice none 0 0, .bool false]) ∧ ∀ l, ¬ IsTape s l)) ∧ Below w.heap.size w w'
theorem TofR.yes {w w' : World} {s : List UInt8} {v : Value} {l : List Int} (h : IntsAt w' v l) (ht : IsTape s l) (hb : Below w.heap.size w w') : TofR w s (.returned (.tuple #[v, .bool true])) w' := ⟨.inl ⟨_, l, rfl, h, ht⟩, hb⟩
theorem TofR.no {w w' : World} {s : List UInt8} (h : ∀ l, ¬ IsTape s l) (hb : Below w.heap.size w w') : TofR w s (.returned (.tuple #[.slice none 0 0, .bool false])) w' := ⟨.inr ⟨rfl, h⟩, hb⟩
/-- All pieces are numbers' texts. -/
theorem tape_all {s : List UInt8} {l : List Int} (h : cutA [] s = l.map Lib.itoa) : tText l = s := by
  unfold tText
  rw [← h, cutA_join]
  rfl
theorem tape_bad {s : List UInt8} {l : List Int} (hs : s ≠ []) (h : cutA [] s = l.map Lib.itoa) (hl : ∀ n ∈ l, In64 n) (hb : tapeBad l = true) : ∀ m, ¬ IsTape s m := fun m hm => by
  have h1 := hm.cut hs
  rw [h] at h1
  have := itoa_map_inj _ _ hl hm.1.in64 h1
  subst this
  rw [tapeBad_false.2 hm.1] at hb
  cases hb
theorem tape_piece {s : List UInt8} (hs : s ≠ []) (j : Nat) (hj : j < (cutA [] s).length) (h : ∀ m, In64 m → (cutA [] s)[j] ≠ Lib.itoa m) : ∀ m, ¬ IsTape s m := fun m hm => by
  have h1 := hm.cut hs
  have hj2 : j < m.length := by rw [h1, List.length_map] at hj; exact hj
  refine h m[j] (hm.1.in64 _ (List.getElem_mem hj2)) ?_
  have : (cutA [] s)[j]? = (m.map Lib.itoa)[j]? := by rw [h1]
  rw [List.getElem?_eq_getElem hj, List.getElem?_map, List.getElem?_eq_getElem hj2] at this
  exact Option.some.inj this
theorem piece_len (s : List UInt8) (j : Nat) (hj : j < (cutA [] s).length) : ((cutA [] s)[j]).length ≤ s.length := by
  have := cutA_mem s [] _ (List.getElem_mem hj)
  simpa using this
set_option maxHeartbeats 4000000 in
theorem rtof_any (s : List UInt8) (hs : s.length ≤ 100000000) (w : World) : Calls Tryd.prog 30 #[.string ⟨s.toArray⟩] w (TofR w s) := by
  by_cases h0 : s = []
  · subst h0
    go_enter Tryd.func30, Tryd.ntmps30
    go_wp2_with fail
    refine bodyPost_ret (v := .tuple #[.slice none 0 0, .bool true]) (by simp [results, Tryd.results30, go_sem]) rfl ?_
    exact TofR.yes (l := []) ⟨by simp, .inl ⟨rfl, rfl⟩⟩ isTape_nil (Below.refl _ _)
  · have h0s : s.isEmpty = false := by
      cases s with
      | nil => exact absurd rfl h0
      | cons c r => rfl
    have H0 := Lib.hid h0
    have CC := Lib.hid (rcut_any s hs w)
    have HPL := Lib.hid (piece_len s)
    have HPC := Lib.hid (tape_piece (s := s) h0)
    have HTB := Lib.hid (fun l => tape_bad (s := s) (l := l) h0)
    have HTA := Lib.hid (fun l => tape_all (s := s) (l := l))
    have hcl := cutA_len s []
    clear h0
    go_enter Tryd.func30, Tryd.ntmps30
    go_wp2_with fail
    refine CC.out.mono ?_
    rintro e w1 ⟨⟨cv, rfl, hcv⟩, hb1⟩
    clear CC
    generalize cutA [] s = ps at *
    have HCV := Lib.hid hcv
    obtain ⟨cad, ccap, rfl, hc1, hc2, _, hcc⟩ := hcv
    have HCC := Lib.hid hcc
    obtain ⟨m, hm⟩ : ∃ m, m = ps.length := ⟨_, rfl⟩
    have HM := Lib.hid hm
    rw [← hm] at hc1 hcl ⊢
    unfold maxLen at hc2
    clear hm hcc
    have hz1 := hb1.size
    go_wp2_with fail
    go_loopw [5, 6] (fun o i wr => ∃ (j : Nat) (l : List Int), j ≤ m ∧ i = .int .i64 j ∧ Below w1.heap.size w1 wr ∧ Hid (OwnInts wr w1.heap.size o l) ∧ Hid (ps.take j = l.map Lib.itoa ∧ ∀ n ∈ l, In64 n)) (fun _ i _ => m - (intOf i).toNat)
    case atStart => exact ⟨0, [], by omega, rfl, Below.refl _ _, OwnInts.nil _ _, by simp, by simp⟩
    case round =>
      obtain ⟨j, l, hj, rfl, hb2, HO, HL⟩ := hrel
      have hzr := hb2.size
      have hBr : Below w.heap.size w wr := hb1.trans (hb2.mono hz1)
      have hll : l.length = j := by
        have := congrArg List.length HL.out.1
        rw [List.length_take, List.length_map, ← HM.out] at this
        omega
      by_cases hlt : j < m
      · have p0 : (0 : Int) ≤ (j : Int) := by omega
        have p1 : (j : Int) < (m : Int) := by omega
        have hjl : j < ps.length := by rw [← HM.out]; exact hlt
        obtain ⟨bl, off, rfl, hbl, _, hcc⟩ := HCC.out (by omega)
        obtain ⟨u, hu, hu2⟩ := hcc j hjl
        obtain ⟨px, hpx⟩ : ∃ px, px = ps[j] := ⟨_, rfl⟩
        have hu3 : u = .string ⟨px.toArray⟩ := by rw [hpx]; exact hu2
        subst hu3
        have ga := (hb2.cell (p := ⟨bl, off + j, none⟩) hbl).trans hu
        have HPX := Lib.hid hpx
        have hpl : px.length ≤ 1000000000 := by rw [hpx]; have := HPL.out j hjl; omega
        have CN := Lib.hid (fun W => rnum_any px hpl W)
        clear hu hu2 hcc hpx
        go_wp2_with fail
        refine (CN.out _).mono ?_
        rintro e w3 ⟨⟨n, bo, rfl, hn, hy, hno⟩, hb3⟩
        have hB3 : Below w.heap.size w w3 := hBr.trans (hb3.mono hBr.size)
        have hB31 : Below w1.heap.size w1 w3 := hb2.trans (hb3.mono hzr)
        have HO3 := Lib.hid (HO.out.kept hb3)
        have HY := Lib.hid hy
        have HNO := Lib.hid hno
        have HIN := Lib.hid hn
        have hz3 := hb3.size
        clear hb3 ga hy hno hn HO
        cases bo with
        | false =>
          have HN : Hid (∀ l, ¬ IsTape s l) := HPC.out j hjl (fun k hk e => by have := (HNO.out k hk (HPX.out.trans e)).1; cases this)
          go_wp2_with fail
          refine bodyPost_ret (v := .tuple #[.slice none 0 0, .bool false]) (by simp [results, Tryd.results30, go_sem]) rfl ?_
          exact TofR.no HN.out hB3
        | true =>
          have HL2 : Hid (ps.take (j + 1) = (l ++ [n]).map Lib.itoa ∧ ∀ k ∈ l ++ [n], In64 k) := by
            refine ⟨?_, fun k hk => ?_⟩
            · rw [List.take_succ_eq_append_getElem hjl, HL.out.1, List.map_append, ← HPX.out, HY.out rfl]; rfl
            · rcases List.mem_append.1 hk with hk | hk
              · exact HL.out.2 k hk
              · rw [List.mem_singleton.1 hk]; exact HIN.out
          have HBA : Hid (Below w3.heap.size w3 (w3.alloc (.cells #[.int .i64 n] 3))) := (Below.refl _ _).alloc (Nat.le_refl _) _
          clear HNO HY HL
          go_wp2_with (at_builtin; refine append_ints (v := u5) (xs := l) (base := w1.heap.size) (o := ⟨some 32, _, _, _, _, _⟩) (src := .slice (some ⟨w3.heap.size, 0, none⟩) 1 1) (l := [n]) rfl _ _ rfl rfl (HO3.out.kept HBA.out) rfl (one_int n HIN.out (Blk.new _ _ _)) (by rw [hll]; simp only [List.length_singleton]; omega) (by have := HBA.out.size; omega) ?_; intro o6 w6 ho6 hg6 hnil6)
          have hB6 : Below w1.heap.size w1 w6 := (hB31.trans (HBA.out.mono hB31.size)).trans (grown_own (HO3.out.kept HBA.out) hg6 (by have := HBA.out.size; omega))
          have HO6 := Lib.hid ho6
          clear ho6 hg6 hnil6
          exact ⟨⟨j + 1, l ++ [n], by omega, by go_num, hB6, HO6, HL2⟩, by simp [intOf]; omega⟩
      · have p1 : ¬ (j : Int) < (m : Int) := by omega
        have HL2 : Hid (ps = l.map Lib.itoa) := by
          have := HL.out.1
          rw [List.take_of_length_le (by rw [← HM.out]; omega)] at this
          exact this
        have HI := Lib.hid (HO.out.at HL.out.2)
        have CF := Lib.hid (rtfault_any _ _ wr HI.out)
        obtain ⟨oad, ocap, ho5, _⟩ := HI.out.form
        subst ho5
        clear hlt hll
        go_wp2_with fail
        refine CF.out.mono ?_
        rintro e w3 ⟨rfl, hb3⟩
        have hB3 : Below w.heap.size w w3 := hBr.trans (hb3.mono hBr.size)
        have HI3 := Lib.hid (HI.out.ext hb3)
        clear hb3 CF
        cases hbad : tapeBad l with
        | true =>
          have HN : Hid (∀ l, ¬ IsTape s l) := HTB.out l HL2.out HL.out.2 hbad
          clear hbad
          go_wp2_with fail
          refine bodyPost_ret (v := .tuple #[.slice none 0 0, .bool false]) (by simp [results, Tryd.results30, go_sem]) rfl ?_
          exact TofR.no HN.out hB3
        | false =>
          have HT : Hid (IsTape s l) := ⟨tapeBad_false.1 hbad, HTA.out l HL2.out⟩
          clear hbad
          go_wp2_with fail
          refine bodyPost_ret (v := .tuple #[.slice oad l.length ocap, .bool true]) (by simp [results, Tryd.results30, go_sem]) rfl ?_
          exact TofR.yes HI3.out HT.out hB3
end Go.Proofs.YtlhdiekibkdiaaaDoor
