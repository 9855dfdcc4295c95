/- What stands in a list that the document's play makes, from round to round. -/
import Derived.Test.YtibmnifenfingaaGreatDoorRF7
import Derived.Test.YtibmnifenfingaaGreatDoorWTI
namespace Go.Proofs.YtibmnifenfingaaGreatDoor
set_option maxRecDepth 100000
open Go.RowKit
set_option linter.unusedSimpArgs false
set_option linter.unusedVariables false
/-- What Played answers of each of some generators. -/
def PlayedIH (mend : Bool) (l : List Int) (s : List GT) : Prop := ∀ x ∈ s, ∀ (gv : Value) (vl : Bool) (vn : Int) (vad : Option Addr) (vk vcap : Nat) (tv lv : Value) (tape : List Int) (q : Nat) (S : Nat → Prop) (W : World), GenAt W gv x → IntsAt W lv l → IntsS W S tv tape →
  q + GT.cost x ≤ 1099511627776 → tape.length + GT.cost x ≤ 1099511627776 → Calls Tryz.prog 66 #[gv, .agg #[.bool vl, .int .i64 vn, .slice vad vk vcap, tv, .int .i64 (q : Nat), .int .i64 0], lv, .bool mend] W (PlaysR W S (GT.play (stC mend l) x (tape, q)))
theorem PlayIn.keep {w w' : World} {SV ST SV' ST' : Nat → Prop} {pv : Value} {r : Except Int (VT × (List Int × Nat))} (h : PlayIn w SV ST pv r) (hz : w.heap.size ≤ w'.heap.size) (h1 : ∀ b, SV b → b < w.heap.size → SV' b ∧ w'.heap[b]? = w.heap[b]?) (h2 : ∀ b, ST b → b < w.heap.size → ST' b ∧ w'.heap[b]? = w.heap[b]?) : PlayIn w' SV' ST' pv r := by
  cases r with
  | error x => exact h
  | ok r =>
    obtain ⟨t, tape, q⟩ := r
    obtain ⟨l, n, ad, k, cap, tv, e, hv, ht⟩ := h
    exact ⟨l, n, ad, k, cap, tv, e, hv.keep hz h1, IntsS.reads.keep ht hz h2⟩
theorem PlayIn.shape {w : World} {SV ST : Nat → Prop} {pv : Value} {r : Except Int (VT × (List Int × Nat))} (h : PlayIn w SV ST pv r) : ∃ l n ad k cap tad tn tc at1 x, pv = .agg #[.bool l, .int .i64 n, .slice ad k cap, .slice tad tn tc, .int .i64 at1, .int .i64 x] := by
  cases r with
  | error x =>
    obtain ⟨_, l, n, ad, k, cap, tad, tn, tc, a, e⟩ := h
    exact ⟨_, _, _, _, _, _, _, _, _, _, e⟩
  | ok r =>
    obtain ⟨t, tape, q⟩ := r
    obtain ⟨l, n, ad, k, cap, tv, e, hv, ht⟩ := h
    obtain ⟨_, tad, tc, rfl, _⟩ := ht
    exact ⟨_, _, _, _, _, _, _, _, _, _, e⟩
/-- Blocks that a play's choices may lie in, within a list's rounds. -/
def STp (w : World) (B3 : Nat) (S : Nat → Prop) (iv : Value) : Nat → Prop := fun x => (S x ∨ w.heap.size ≤ x) ∧ x ≠ w.heap.size + 1 ∧ x ≠ w.heap.size + 2 ∧ x ≠ B3 ∧ iv.ownBlock ≠ some x
/-- So far all is well. -/
structure PlOk (w WL : World) (B3 : Nat) (S : Nat → Prop) (mend : Bool) (l : List Int) (sl : List GT) (R : Except Int (VT × (List Int × Nat))) (j : Nat) (tv : Value) (tape : List Int) (q : Nat) (SV : Nat → Prop) (iv : Value) (cs : List Value) (ts : List VT) (wr : World) : Prop where
  len : ts.length = j
  items : Items wr WL.heap.size SV iv cs ts
  new : ∀ x, SV x → WL.heap.size ≤ x ∧ x < wr.heap.size
  ch : IntsS wr (STp w B3 S iv) tv tape
  bud : q + GT.costL (sl.drop j) ≤ 1099511627776
  bud2 : tape.length + GT.costL (sl.drop j) ≤ 1099511627776
  eq : asList (app ts (GT.playL (stC mend l) (sl.drop j) (tape, q))) = R
/-- Memory in a round. -/
structure PlM (w WL : World) (B3 : Nat) (pc : Array Value) (iv : Value) (wr : World) : Prop where
  bel : Below w.heap.size w wr
  siz : WL.heap.size ≤ wr.heap.size
  fr : ∀ x, x < WL.heap.size → x ≠ w.heap.size + 1 → x ≠ B3 → wr.heap[x]? = WL.heap[x]?
  p : Blk wr (w.heap.size + 1) pc 110
  v : Blk wr B3 #[.bool true, .int .i64 0, iv] 45
theorem play_budC {mend : Bool} {l : List Int} (x : GT) (h : GT.eachErr x = 0) {tape tape' : List Int} {q q' : Nat} {t : VT} (e : GT.play (stC mend l) x (tape, q) = .ok (t, (tape', q'))) : q' ≤ q + GT.cost x ∧ tape'.length ≤ tape.length + GT.cost x := by
  have h1 := GT.play_bud (stC mend l) (fun r => q + GT.cost x + 1 - r.2) (fun m q c q' _ h => ⟨(stC_bd h).1, (stC_bd h).2.1⟩) (fun m q c q' _ h => by rw [(stC_bd h).2.2]; dsimp only; omega) x h _ _ _ e
  have h2 := GT.play_bud (stC mend l) (fun r => tape.length + GT.cost x + 1 - r.1.length) (fun m q c q' _ h => ⟨(stC_bd h).1, (stC_bd h).2.1⟩) (fun m q c q' _ h => by rw [(stC_bd h).2.2]; simp only [List.length_append, List.length_cons, List.length_nil]; omega) x h _ _ _ e
  dsimp only at h1 h2
  omega
section
variable {w WL : World} {B3 : Nat} {S : Nat → Prop} {mend : Bool} {l : List Int} {sl : List GT} {R : Except Int (VT × (List Int × Nat))} {j : Nat} {pc : Array Value} {iv : Value} {wr V V3 : World}
/-- Memory, a round on. -/
theorem PlM.next (h : PlM w WL B3 pc iv wr) (hw3 : w.heap.size + 3 ≤ B3) (hB3 : B3 < WL.heap.size) (hV : Below wr.heap.size wr V) {c0 c1 c2 c3 c4 c5 : Value} {iv' : Value} (hiv : ∀ b, iv.ownBlock = some b → WL.heap.size ≤ b ∧ b < wr.heap.size)
    (hgr : (((((((V.setCell ⟨w.heap.size + 1, 0, none⟩ c0).setCell ⟨w.heap.size + 1, 1, none⟩ c1).setCell ⟨w.heap.size + 1, 2, none⟩ c2).setCell ⟨w.heap.size + 1, 3, none⟩ c3).setCell ⟨w.heap.size + 1, 4, none⟩ c4).setCell ⟨w.heap.size + 1, 5, none⟩ c5).alloc (.cells #[c0, c1, c2] 45)).grownBy V3 iv.ownBlock)
    {o0 o1 o2 o3 o4 o5 : Value} (hp : pc = #[o0, o1, o2, o3, o4, o5]) :
    PlM w WL B3 #[c0, c1, c2, c3, c4, c5] iv' (V3.setCell ⟨B3, 2, none⟩ iv') ∧ V.heap.size + 1 ≤ V3.heap.size ∧ (∀ x, x < V.heap.size → x ≠ w.heap.size + 1 → iv.ownBlock ≠ some x → V3.heap[x]? = V.heap[x]?) := by
  subst hp
  have hz := hV.size
  have hs := h.siz
  generalize hV1 : (((((V.setCell ⟨w.heap.size + 1, 0, none⟩ c0).setCell ⟨w.heap.size + 1, 1, none⟩ c1).setCell ⟨w.heap.size + 1, 2, none⟩ c2).setCell ⟨w.heap.size + 1, 3, none⟩ c3).setCell ⟨w.heap.size + 1, 4, none⟩ c4).setCell ⟨w.heap.size + 1, 5, none⟩ c5 = V1 at *
  have hz1 : V1.heap.size = V.heap.size := by rw [← hV1]; simp only [size_setCell]
  have hb1 : Below w.heap.size w V1 := by rw [← hV1]; exact below_st6 (h.bel.trans (hV.mono h.bel.size)) (by omega) _ _ _ _ _ _
  have hp1 : Blk V1 (w.heap.size + 1) #[c0, c1, c2, c3, c4, c5] 110 := by rw [← hV1]; exact set6 (h.p.ext hV) _ _ _ _ _ _
  have hf1 : ∀ x, x ≠ w.heap.size + 1 → V1.heap[x]? = V.heap[x]? := fun x hx => by rw [← hV1]; exact heap_st6 _ _ hx _ _ _ _ _ _
  clear hV1
  have hz2 : (V1.alloc (.cells #[c0, c1, c2] 45)).heap.size = V1.heap.size + 1 := by simp
  have hz3 := hgr.size
  have hf3 : ∀ x, x < V.heap.size → x ≠ w.heap.size + 1 → iv.ownBlock ≠ some x → V3.heap[x]? = V.heap[x]? := fun x hx h1 h2 =>
    (hgr.block x (by omega) (fun e => h2 e.symm)).trans ((Below.heap_alloc V1 _ x (by omega)).trans (hf1 x h1))
  have hpl := h.p.lt
  have hvl := h.v.lt
  have hi : ∀ x, x < WL.heap.size → iv.ownBlock ≠ some x := fun x hx e => by have := hiv x e; omega
  refine ⟨⟨?_, ?_, fun x hx h1 h2 => ?_, ?_, ?_⟩, by omega, hf3⟩
  · exact ((hb1.alloc (by omega) _).grown hgr (by omega) (fun k hk => by have := hiv k hk; omega)).setCell (by dsimp only; omega) _
  · rw [size_setCell]; omega
  · rw [Below.heap_setCell _ _ _ _ h2, hf3 x (by omega) h1 (hi x hx), hV.block x (by omega)]
    exact h.fr x hx h1 h2
  · have : Blk V3 (w.heap.size + 1) #[c0, c1, c2, c3, c4, c5] 110 := (hgr.block _ (by omega) (fun e => by have := hiv _ e.symm; omega)).trans (hp1.alloc _)
    exact this.oth B3 2 (by omega) _
  · have h0 : Blk V B3 #[.bool true, .int .i64 0, iv] 45 := h.v.ext hV
    have : Blk V3 B3 #[.bool true, .int .i64 0, iv] 45 := (hf3 B3 (by omega) (by omega) (hi B3 hB3)).trans h0
    simpa using this.set 2 iv'
/-- All is well, a round on; or it has failed. -/
theorem PlOk.next {tv : Value} {tape : List Int} {q : Nat} {SV : Nat → Prop} {cs : List Value} {ts : List VT} (h : PlOk w WL B3 S mend l sl R j tv tape q SV iv cs ts wr) (hw3 : w.heap.size + 3 ≤ B3) (hB3 : B3 < WL.heap.size) (hsz : WL.heap.size ≤ wr.heap.size) (hwl : w.heap.size ≤ WL.heap.size) (hj : j < sl.length) (hok : GT.eachErr sl[j] = 0) (hV : Below wr.heap.size wr V)
    {vl : Bool} {vn : Int} {vad : Option Addr} {vk vcap tn tc : Nat} {tad : Option Addr} {at1 er : Int} {iv' : Value}
    (hP : PlayIn V (fun b => wr.heap.size ≤ b) (fun b => STp w B3 S iv b ∨ wr.heap.size ≤ b) (.agg #[.bool vl, .int .i64 vn, .slice vad vk vcap, .slice tad tn tc, .int .i64 at1, .int .i64 er]) (GT.play (stC mend l) sl[j] (tape, q)))
    (how : V3.ownsRow WL.heap.size 45 3 iv' (j + 1) (cs ++ [.bool vl, .int .i64 vn, .slice vad vk vcap])) (hz3 : V.heap.size + 1 ≤ V3.heap.size) (hf3 : ∀ x, x < V.heap.size → x ≠ w.heap.size + 1 → iv.ownBlock ≠ some x → V3.heap[x]? = V.heap[x]?)
    {w2 : World} (hw2 : w2.heap.size = V.heap.size + 1) (hw2f : ∀ x, x < V.heap.size → x ≠ w.heap.size + 1 → w2.heap[x]? = V.heap[x]?) (hgr : w2.grownBy V3 iv.ownBlock) (hat : iv'.ownBlock = iv.ownBlock ∨ iv'.ownBlock = some w2.heap.size) :
    (er = 0 ∧ ∃ tape' q' SV' cs' ts', at1 = (q' : Nat) ∧ PlOk w WL B3 S mend l sl R (j + 1) (.slice tad tn tc) tape' q' SV' iv' cs' ts' (V3.setCell ⟨B3, 2, none⟩ iv')) ∨
    (er ≠ 0 ∧ R = .error er) := by
  have hz := hV.size
  have hpb := fun (t' : VT) (r' : List Int × Nat) => play_budC (mend := mend) (l := l) sl[j] hok (tape := tape) (q := q) (t := t') (tape' := r'.1) (q' := r'.2)
  have hER := fun x => playL_err (stC mend l) sl j hj (tape, q) x ts
  have hOK := fun q' v => playL_ok (stC mend l) sl j hj (tape, q) q' v ts
  have hiv := h.items.lt
  have hlen := h.len
  generalize GT.play (stC mend l) sl[j] (tape, q) = r at *
  cases r with
  | error x =>
    obtain ⟨hx, _, _, _, _, _, _, _, _, _, e⟩ := hP
    simp only [Value.agg.injEq] at e
    have e5 := congrArg (fun z : Array Value => z[5]?) e
    simp at e5
    subst e5
    refine .inr ⟨hx, ?_⟩
    rw [← h.eq, hER er rfl]
    rfl
  | ok r =>
    obtain ⟨t, tape', q'⟩ := r
    obtain ⟨l1, n1, ad1, k1, cap1, tv1, e, hv, ht⟩ := hP
    simp only [Value.agg.injEq] at e
    have e0 := congrArg (fun z : Array Value => z[0]?) e
    have e1 := congrArg (fun z : Array Value => z[1]?) e
    have e2 := congrArg (fun z : Array Value => z[2]?) e
    have e3 := congrArg (fun z : Array Value => z[3]?) e
    have e4 := congrArg (fun z : Array Value => z[4]?) e
    have e5 := congrArg (fun z : Array Value => z[5]?) e
    simp at e0 e1 e2 e3 e4 e5
    obtain ⟨rfl, rfl, rfl⟩ := e2
    subst e0 e1 e3 e5
    have hb := hpb t (tape', q') rfl
    have hc := GT.costL_drop sl j hj
    have hbd := h.bud
    have hbd2 := h.bud2
    dsimp only at hb
    -- what lies in the items stays
    have hitV : Items V WL.heap.size SV iv cs ts := h.items.keep hz (fun b hb hl => hV.block b hl) (fun b hb hl => hV.block b hl)
    have hit2 : Items w2 WL.heap.size SV iv cs ts := hitV.keep (by omega) (fun b hb hl => hw2f b hl (by have := h.new b hb; omega)) (fun b hb hl => hw2f b hl (by have := hiv b hb; omega))
    have hv2 : ValIn (fun b => wr.heap.size ≤ b ∧ b < V.heap.size) w2 (.agg #[.bool vl, .int .i64 vn, .slice vad vk vcap]) t := hv.keep (by omega) (fun b hb hl => ⟨⟨hb, hl⟩, hw2f b hl (by omega)⟩)
    have how' : V3.ownsRow WL.heap.size 45 3 iv' (ts.length + 1) (cs ++ [.bool vl, .int .i64 vn, .slice vad vk vcap]) := by rw [hlen]; exact how
    have hitN := hit2.push how' hgr hat (fun b hb => by have := h.new b hb; omega) (S2 := fun b => wr.heap.size ≤ b ∧ b < V.heap.size) (fun b hb => ⟨by omega, fun e => by have := hiv b e; omega⟩) hv2
    have hivn : ∀ b, iv'.ownBlock = some b → WL.heap.size ≤ b := fun b hb => (World.ownsRow.lt how b hb).1
    refine .inl ⟨rfl, tape', q', _, _, _, e4, ⟨by simp; omega, hitN.keep (by rw [size_setCell]; exact Nat.le_refl _) (fun b hb hl => Below.heap_setCell _ _ _ _ ?_) (fun b hb hl => Below.heap_setCell _ _ _ _ ?_), fun x hx => ?_, ?_, by omega, by omega, ?_⟩⟩
    · rcases hb with hb | hb
      · have := h.new b hb; dsimp only; omega
      · dsimp only; omega
    · have := hivn b hb; dsimp only; omega
    · rw [size_setCell]
      rcases hx with hx | hx
      · have := h.new x hx; omega
      · omega
    · refine IntsS.reads.keep ht (by rw [size_setCell]; omega) (fun b hb hl => ?_)
      have hne : b ≠ w.heap.size + 1 ∧ b ≠ B3 ∧ iv.ownBlock ≠ some b ∧ STp w B3 S iv b := by
        rcases hb with hb | hb
        · exact ⟨hb.2.1, hb.2.2.2.1, hb.2.2.2.2, hb⟩
        · have hn : iv.ownBlock ≠ some b := fun e => by have := hiv b e; omega
          exact ⟨by omega, by omega, hn, ⟨.inr (by omega), by omega, by omega, by omega, hn⟩⟩
      obtain ⟨n1, n2, n3, n4⟩ := hne
      refine ⟨⟨n4.1, n4.2.1, n4.2.2.1, n4.2.2.2.1, ?_⟩, ?_⟩
      · rcases hat with e | e
        · rw [e]; exact n3
        · rw [e]; intro e6; have := Option.some.inj e6; omega
      · rw [Below.heap_setCell _ _ _ _ n2]
        exact hf3 b hl n1 n3
    · rw [← hOK (tape', q') t rfl]
      exact h.eq
end
end Go.Proofs.YtibmnifenfingaaGreatDoor
