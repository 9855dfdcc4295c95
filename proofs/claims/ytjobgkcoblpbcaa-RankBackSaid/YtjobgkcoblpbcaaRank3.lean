/- The walk through Nth. -/
import Derived.Test.YtjobgkcoblpbcaaRank2
import Derived.Test.YtjobgkcoblpbcaaRegm
import Derived.RegionTactic
namespace Go.Proofs.Ytjobgkcoblpbcaa
open Go.RowKit
set_option linter.unusedSimpArgs false
set_option linter.unusedVariables false
theorem GT.cost_brs {g : GT} (h : GT.eachErr g = 0) (hc : GT.Chs g) {j : Nat} (hj : j < (GT.brs g).length) : GT.costL (GT.brs g)[j] + 1 ≤ GT.cost g := by
  have hrep : ∀ (n : Nat) (x : GT), GT.costL (List.replicate n x) = n * GT.cost x := by
    intro n x
    induction n with
    | zero => simp [GT.costL]
    | succ n ih => simp only [List.replicate_succ, GT.costL, ih, Nat.add_mul]; omega
  obtain ⟨k, a, b, s⟩ := g
  rcases hc with hk | hk | hk <;> (simp only [GT.kind] at hk; subst hk)
  · simp [GT.brs, GT.cost, GT.costL]
  · rcases GT.one_cases (GT.ok_one h) with ⟨e, _⟩ | ⟨e, _⟩ | e | ⟨_, h1, h2, h3⟩ | ⟨e, _⟩ <;> try omega
    match s, h1, hj with
    | [x], _, hj =>
      have hj' : j < a.toNat + 1 := by simpa [GT.brs] using hj
      have e : (GT.brs (.mk 4 a b [x]))[j] = List.replicate j x := by simp [GT.brs, GT.rep]
      rw [e, hrep]
      simp only [GT.cost, GT.costL]
      have : j * GT.cost x ≤ 5 * GT.cost x := Nat.mul_le_mul_right _ (by omega)
      simp
      omega
  · have hj' : j < s.length := by simpa [GT.brs] using hj
    have e : (GT.brs (.mk 5 a b s))[j] = [s[j]] := by simp [GT.brs]
    rw [e]
    have := GT.cost_le s j hj'
    simp [GT.cost, GT.costL]
    omega
theorem GT.wtL_len (l : List GT) : l.length ≤ GT.wtL l := by
  induction l with
  | nil => simp
  | cons x l ih => have := GT.wt_pos x; simp only [List.length_cons, GT.wtL]; omega
theorem GT.wtL_parts (s : List GT) (d c : Nat) (ih : ∀ x ∈ s, (GT.parts x (d + 1)).2 = true → GT.wt x ≤ (GT.parts x (d + 1)).1 * c) : ∀ r : Nat × Bool, (GT.partsL s d r).2 = true → GT.wtL s + r.1 * c ≤ (GT.partsL s d r).1 * c := by
  induction s with
  | nil => intro r h; simp [GT.wtL, GT.partsL]
  | cons x s ihs =>
    intro r h
    simp only [GT.partsL] at h ⊢
    split at h
    · rename_i hr
      rw [if_pos hr]
      have h1 := (GT.partsL_ok s d _ h).1
      simp only [Bool.and_eq_true, decide_eq_true_eq] at h1
      have h2 := ihs (fun y hy => ih y (by simp [hy])) _ h
      have h3 := ih x (by simp) h1.1
      simp only [Nat.add_mul] at h2
      simp only [GT.wtL]
      omega
    · rename_i hr; exact absurd h hr
theorem GT.wt_parts (g : GT) : ∀ d, (GT.parts g d).2 = true → GT.wt g ≤ (GT.parts g d).1 * 6 ^ (6 - d) := by
  induction g using GT.ind with
  | h k a b s ih =>
    intro d h
    have hk := GT.parts_kids h
    simp only [GT.parts, Bool.and_eq_true, decide_eq_true_eq] at h
    have hL := GT.wtL_parts s d (6 ^ (6 - (d + 1))) (fun x hx => ih x hx (d + 1)) _ h.1
    simp only at hL
    have hp : 6 ^ (6 - d) = 6 ^ (6 - (d + 1)) * 6 := by rw [← Nat.pow_succ]; congr 1; omega
    have hpos : 1 ≤ 6 ^ (6 - (d + 1)) := Nat.one_le_pow _ _ (by omega)
    simp only [GT.parts]
    have hge := (GT.partsL_ok s d _ h.1).2.2
    simp only at hge
    rw [hp, ← Nat.mul_assoc]
    generalize 6 ^ (6 - (d + 1)) = c at *
    generalize (GT.partsL s d (1, decide (d < 6))).1 = n at *
    have h6 : n * c * 6 = 6 * (n * c) := by omega
    have h1 : 1 * c ≤ n * c := Nat.mul_le_mul_right _ (by omega)
    simp only [GT.wt]
    split
    · omega
    · split
      · omega
      · split <;> omega
theorem GT.wt_ok {g : GT} (h : GT.check g = 0) : GT.wt g ≤ 1399680 := by
  have hp := GT.check_parts h
  have h1 := GT.wt_parts g 0 hp
  cases g with
  | mk k a b s =>
    have h2 := hp
    simp only [GT.parts, Bool.and_eq_true, decide_eq_true_eq] at h2
    have h3 : (GT.parts (.mk k a b s) 0).1 ≤ 30 := by simp only [GT.parts]; exact h2.2
    have h4 : (GT.parts (.mk k a b s) 0).1 * 6 ^ (6 - 0) ≤ 30 * 6 ^ (6 - 0) := Nat.mul_le_mul_right _ h3
    omega
theorem GT.costL_append (l m : List GT) : GT.costL (l ++ m) = GT.costL l + GT.costL m := by
  induction l with
  | nil => simp [GT.costL]
  | cons x l ih => simp only [List.cons_append, GT.costL, ih]; omega
theorem OwnInts.form2 {w : World} {lo : Nat} {v : Value} {l : List Int} (h : OwnInts w lo v l) : ∀ b, v.ownBlock = some b → lo ≤ b ∧ b < w.heap.size := World.ownsRow.lt h
theorem SrcAt.ext {w w' : World} {v : Value} {n : Nat} {cs : List Value} (h : SrcAt w v n cs) (hb : Below w.heap.size w w') : SrcAt w' v n cs := by
  rcases h with h | ⟨a, c, rfl, hc⟩
  · exact .inl h
  · refine .inr ⟨a, c, rfl, fun j u hu => ?_⟩
    have h1 := hc j u hu
    rw [hb.cell (World.block_lt_of_cell? w _ h1)]
    exact h1
theorem OwnGs.emptyAt {w0 w : World} {lo n : Nat} (hb : lo ≤ w.heap.size) (hn : n = w.heap.size) : OwnGs w0 (w.alloc (.cells #[] 43)) lo (.slice (some ⟨n, 0, none⟩) 0 0) [] := by
  subst hn; exact OwnGs.empty w0 w lo hb
theorem gsv_behind {w0 w7 w8 : World} {S : Nat → Prop} {o v : Value} {s : List GT} {gi : Nat} {ob : Obj} (h : GsV w0 w7 S v s) (hS : ∀ b, S b → o.ownBlock ≠ some b) (g2 : (w7.alloc ob).grownBy w8 o.ownBlock) (g3 : o.ownBlock = some gi ∨ gi = (w7.alloc ob).heap.size) : GsV w0 w8 (fun b => b ≠ gi) v s := by
  refine (GsV.reads w0).keep h (by have := g2.size; simp at this; omega) (fun b hs hl => ⟨?_, ?_⟩)
  · rcases g3 with e | e
    · intro e2; exact hS b hs (by rw [e, e2])
    · simp at e; omega
  · exact (g2.block b (by simp; omega) (fun e => hS b hs e.symm)).trans (Below.heap_alloc w7 ob b hl)
/-- What holds at the head of Nth's loop. -/
structure NthI (g : GT) (i0 : Int) (w : World) (k : Nat) (l : List GT) (n : Int) (t : List Int) (o td : Value) (wr : World) : Prop where
  wt : GT.wtL l = k
  wb : GT.wtL l ≤ GT.wt g
  ok : GT.OkL l
  pr : GT.prodL l ≤ 1048576
  n0 : 0 ≤ n
  n1 : n < GT.prodL l
  out : OwnInts wr w.heap.size o t
  tv : ∀ x ∈ t, 0 ≤ x ∧ x ≤ 1000
  tl : t.length + GT.costL l ≤ GT.cost g
  td : GsV w wr (fun b => o.ownBlock ≠ some b) td l
  below : Below w.heap.size w wr
  nth : ∀ t', GT.NthR l n t' → GT.NthR [g] i0 (t ++ t')
theorem GsV.keepB {w0 w w' : World} {S : Nat → Prop} {v : Value} {s : List GT} (h : GsV w0 w S v s) (hb : Below w.heap.size w w') : GsV w0 w' S v s := (GsV.reads w0).keep h hb.size (fun b hs hl => ⟨hs, hb.block b hl⟩)
theorem own_v {w0 w' : World} {lo : Nat} {o v : Value} {s : List GT} (hv : OwnGs w0 w' lo v s) (ho : ∀ b, o.ownBlock = some b → b < lo) : GsV w0 w' (fun b => o.ownBlock ≠ some b) v s :=
  hv.v.mono (fun b hb _ e => by have h1 := (hv.form2 b hb).1; have := ho b e; omega)
theorem NthI.both {g : GT} {i0 : Int} {w : World} {k : Nat} {a b : Int} {s rest : List GT} {n : Int} {t : List Int} {o td v : Value} {wr w' : World} (h : NthI g i0 w k (.mk 3 a b s :: rest) n t o td wr) (hB : Below wr.heap.size wr w') (hv : OwnGs w w' wr.heap.size v (s ++ rest)) :
    NthI g i0 w (GT.wtL (s ++ rest)) (s ++ rest) n t o v w' ∧ GT.wtL (s ++ rest) < k := by
  obtain ⟨h1, h2⟩ := h.ok.cons
  obtain ⟨h3, h4⟩ := GT.ok_both h1
  have hp : GT.prodL (.mk 3 a b s :: rest) = GT.prodL (s ++ rest) := by rw [GT.prodL_append]; simp only [GT.prodL, h4]
  have e2 := h.pr
  have e3 := h.n1
  have e4 := h.wt
  have e4b := h.wb
  have e5 := h.tl
  rw [hp] at e2 e3
  have hwt : GT.wtL (.mk 3 a b s :: rest) = 1 + GT.wtL (s ++ rest) := by rw [GT.wtL_append]; simp [GT.wtL, GT.wt]; omega
  have hco : GT.costL (.mk 3 a b s :: rest) = GT.costL (s ++ rest) := by rw [GT.costL_append]; simp [GT.costL, GT.cost]
  rw [hwt] at e4 e4b
  rw [hco] at e5
  exact ⟨⟨rfl, by omega, h3.append h2, e2, h.n0, e3, h.out.kept hB, h.tv, e5, own_v hv (fun b e => (h.out.form2 b e).2), h.below.trans (hB.mono h.below.size), fun t' h' => h.nth t' (.both h')⟩, by omega⟩
theorem NthI.just {g : GT} {i0 : Int} {w : World} {k : Nat} {a b : Int} {s rest : List GT} {n : Int} {t : List Int} {o td v : Value} {wr w' : World} (h : NthI g i0 w k (.mk 1 a b s :: rest) n t o td wr) (hB : Below wr.heap.size wr w') (hv : GsV w w' (fun b => o.ownBlock ≠ some b) v rest) :
    NthI g i0 w (GT.wtL rest) rest n t o v w' ∧ GT.wtL rest < k := by
  obtain ⟨h1, h2⟩ := h.ok.cons
  have hp : GT.prodL (.mk 1 a b s :: rest) = GT.prodL rest := by simp [GT.prodL, GT.count]
  have e2 := h.pr
  have e3 := h.n1
  have e4 := h.wt
  have e4b := h.wb
  have e5 := h.tl
  rw [hp] at e2 e3
  have hwt : GT.wtL (.mk 1 a b s :: rest) = 1 + GT.wtL rest := by simp [GT.wtL, GT.wt]
  have hco : GT.costL (.mk 1 a b s :: rest) = GT.costL rest := by simp [GT.costL, GT.cost]
  rw [hwt] at e4 e4b
  rw [hco] at e5
  exact ⟨⟨rfl, by omega, h2, e2, h.n0, e3, h.out.kept hB, h.tv, e5, hv, h.below.trans (hB.mono h.below.size), fun t' h' => h.nth t' (.just h')⟩, by omega⟩
theorem GT.brs_len {g : GT} (h : GT.check g = 0) (hc : GT.Chs g) : 1 ≤ (GT.brs g).length ∧ (GT.brs g).length ≤ 1001 := by
  have hl := GT.brs_length (GT.check_ok h) hc
  obtain ⟨k, a, b, s⟩ := g
  have hlen := (GT.parts_kids (GT.check_parts h)).1
  rcases hc with hk | hk | hk <;> (simp only [GT.kind] at hk; subst hk) <;> rcases GT.one_cases (GT.ok_one (GT.check_ok h)) with ⟨e, _⟩ | ⟨e, h0, h0', h1, h2, h3⟩ | e | ⟨e, h1, h2, h3⟩ | ⟨e, h1⟩ <;> try omega
  all_goals (simp [GT.most] at hl; omega)
theorem NthI.choose {g : GT} {i0 : Int} {w : World} {k : Nat} {g1 : GT} {rest : List GT} {n n' : Int} {t : List Int} {o o' td v : Value} {wr w' : World} (h : NthI g i0 w k (g1 :: rest) n t o td wr) (hc : GT.Chs g1) {j : Nat} (hj : j < (GT.brs g1).length)
    (hn : n' + GT.prodL rest * GT.sumP ((GT.brs g1).take j) = n) (h0 : 0 ≤ n') (h1 : n' < GT.prodL rest * GT.prodL (GT.brs g1)[j]) (hB : Below w.heap.size w w') (ho : OwnInts w' w.heap.size o' (t ++ [(j : Int)])) (hv : GsV w w' (fun b => o'.ownBlock ≠ some b) v ((GT.brs g1)[j] ++ rest)) :
    NthI g i0 w (GT.wtL ((GT.brs g1)[j] ++ rest)) ((GT.brs g1)[j] ++ rest) n' (t ++ [(j : Int)]) o' v w' ∧ GT.wtL ((GT.brs g1)[j] ++ rest) < k := by
  obtain ⟨h2, h3⟩ := h.ok.cons
  obtain ⟨h4, h5⟩ := GT.ok_brs h2 hc
  have hbl := GT.brs_len h2.1 hc
  have hjk := h5 _ (List.getElem_mem hj)
  have h1' : n' < GT.prodL ((GT.brs g1)[j] ++ rest) := by rw [GT.prodL_append, Int.mul_comm]; exact h1
  have hbd := GT.branch_bd h2 hc h3 hj h0 h1'
  have hprod : GT.prodL ((GT.brs g1)[j] ++ rest) ≤ GT.prodL (g1 :: rest) := by
    have h6 := GT.branch_bd h2 hc h3 hj (i := GT.prodL ((GT.brs g1)[j] ++ rest) - 1) (by have := (hjk.append h3).pos; omega) (by omega)
    omega
  have e2 := h.pr
  have e4 := h.wt
  have e4b := h.wb
  have e5 := h.tl
  have hw := GT.wt_brs (GT.check_ok h2.1) hc hj
  have hco := GT.cost_brs (GT.check_ok h2.1) hc hj
  simp only [GT.wtL] at e4 e4b
  simp only [GT.costL] at e5
  refine ⟨⟨rfl, by rw [GT.wtL_append]; omega, hjk.append h3, by omega, h0, h1', ho, fun x hx => ?_, ?_, hv, hB, fun t' h' => ?_⟩, ?_⟩
  · rcases List.mem_append.1 hx with e | e
    · exact h.tv x e
    · have : x = j := by simpa using e
      rw [this]; omega
  · rw [GT.costL_append]
    simp
    omega
  · have := h.nth (j :: t') (by rw [← hn, Int.add_comm]; exact .choose hc hj h')
    simpa using this
  · rw [GT.wtL_append]; omega
set_option maxRecDepth 100000 in
set_option maxHeartbeats 4000000 in
theorem nth_any (g : GT) (hk : GT.Ok g) (i : Int) (h0 : 0 ≤ i) (h1 : i < GT.count g) (v : Value) (w : World) (hg : GenAt w v g) :
    Calls Try.prog 28 #[v, .int .i64 i] w fun e w' => (∃ u t, e = .returned (.tuple #[u, .nilIface]) ∧ OwnInts w' w.heap.size u t ∧ (∀ n ∈ t, 0 ≤ n ∧ n ≤ 1000) ∧ t.length ≤ 2000000 ∧ Hid (GT.NthR [g] i t)) ∧ Below w.heap.size w w' := by
  obtain ⟨k, a, b, t, ad, cap, rfl⟩ := hg.shape
  have C1 := Lib.hid (fun W (h : Below w.heap.size w W) => gen_count_any g (.agg #[.int .i64 k, .int .i64 a, .int .i64 b, .slice ad t cap]) W (hg.ext h))
  rw [hk.countR, errV_zero] at C1
  have hp := hk.pos
  have hle := hk.2
  have HG := Lib.hid hg
  have HK := Lib.hid hk
  have hct : ∃ cn, cn = GT.count g := ⟨_, rfl⟩
  obtain ⟨cn, hcn⟩ := hct
  rw [← hcn] at C1 h1 hp hle
  have HCN := Lib.hid hcn
  clear hg hk hcn
  go_enter Try.func28, Try.ntmps28
  go_wp2_with fail
  refine (C1.out _ (by repeat (first | with_reducible assumption | with_reducible exact Below.refl _ _ | with_reducible apply Below.drew | (with_reducible refine Below.alloc ?_ (by first | omega | (simp only [World.size_alloc, size_setCell, size_drew, size_drewN]; omega) | (dsimp only; omega) | (simp only [World.size_alloc, size_setCell, size_drew, size_drewN]; dsimp only; omega)) _) | (with_reducible refine Below.setCell ?_ (by first | omega | (simp only [World.size_alloc, size_setCell, size_drew, size_drewN]; omega) | (dsimp only; omega) | (simp only [World.size_alloc, size_setCell, size_drew, size_drewN]; dsimp only; omega)) _)))).mono ?_
  rintro e w1 ⟨rfl, hb1⟩
  have hB1 : Below w.heap.size w w1 := Below.trans (by repeat (first | with_reducible assumption | with_reducible exact Below.refl _ _ | with_reducible apply Below.drew | (with_reducible refine Below.alloc ?_ (by first | omega | (simp only [World.size_alloc, size_setCell, size_drew, size_drewN]; omega) | (dsimp only; omega) | (simp only [World.size_alloc, size_setCell, size_drew, size_drewN]; dsimp only; omega)) _) | (with_reducible refine Below.setCell ?_ (by first | omega | (simp only [World.size_alloc, size_setCell, size_drew, size_drewN]; omega) | (dsimp only; omega) | (simp only [World.size_alloc, size_setCell, size_drew, size_drewN]; dsimp only; omega)) _))) (hb1.mono (by first | omega | (simp only [World.size_alloc, size_setCell, size_drew, size_drewN]; omega) | (dsimp only; omega) | (simp only [World.size_alloc, size_setCell, size_drew, size_drewN]; dsimp only; omega)))
  obtain ⟨hc1, hf1, hz1⟩ := bcell hb1
  try simp only [World.size_alloc, size_setCell, size_drew, size_drewN] at hz1
  clear hb1
  have y1_0 : w.heap.size < w1.heap.size := by omega
  go_wp2_with fail
  have hB2 : Below w.heap.size w (w1.alloc (.cells #[.int .i64 k, .int .i64 a, .int .i64 b, .slice ad t cap] 43)) := by repeat (first | with_reducible assumption | with_reducible exact Below.refl _ _ | with_reducible apply Below.drew | (with_reducible refine Below.alloc ?_ (by first | omega | (simp only [World.size_alloc, size_setCell, size_drew, size_drewN]; omega) | (dsimp only; omega) | (simp only [World.size_alloc, size_setCell, size_drew, size_drewN]; dsimp only; omega)) _) | (with_reducible refine Below.setCell ?_ (by first | omega | (simp only [World.size_alloc, size_setCell, size_drew, size_drewN]; omega) | (dsimp only; omega) | (simp only [World.size_alloc, size_setCell, size_drew, size_drewN]; dsimp only; omega)) _))
  have x1 : Blk (w1.alloc (.cells #[.int .i64 k, .int .i64 a, .int .i64 b, .slice ad t cap] 43)) w1.heap.size #[.int .i64 k, .int .i64 a, .int .i64 b, .slice ad t cap] 43 := Blk.new _ _ _
  have hI : Hid (NthI g i w (GT.wtL [g]) [g] i [] (.slice none 0 0) (.slice (some ⟨w1.heap.size, 0, none⟩) 1 1) (w1.alloc (.cells #[.int .i64 k, .int .i64 a, .int .i64 b, .slice ad t cap] 43))) := by
    refine ⟨rfl, by simp [GT.wtL], fun x hx => by rw [List.mem_singleton.1 hx]; exact HK.out, by simp only [GT.prodL]; rw [← HCN.out]; omega, h0, by simp only [GT.prodL]; rw [← HCN.out]; omega, OwnInts.nil _ _, by simp, by simp [GT.costL], gsv_new x1 (by simp [Value.ownBlock]) HG.out, hB2, fun t' h => h⟩
  clear hc1 hf1 hz1 y1_0 x1 hB1
  generalize w1.alloc (.cells #[.int .i64 k, .int .i64 a, .int .i64 b, .slice ad t cap] 43) = W at *
  generalize w1.heap.size = z1 at *
  go_loopg [1, 8, 9] (GT.wtL [g]) (fun k i' o td wr => ∃ l n t, i' = .int .i64 n ∧ NthI g i w k l n t o td wr)
  case atStart => exact ⟨_, _, _, rfl, hI.out⟩
  case round =>
    obtain ⟨l, n, t, rfl, hN⟩ := hrel
    obtain ⟨wo, rfl⟩ : ∃ wo : World, wo = wr := ⟨_, rfl⟩
    obtain ⟨ov, rfl⟩ : ∃ ov : Value, ov = u8 := ⟨_, rfl⟩
    clear hI hB2 C1 h0 h1 hle hp
    have HN := Lib.hid hN
    obtain ⟨ad9, cap9, rfl, hl9, hm9, hn9, hg9⟩ := hN.td
    have hbr := hN.below
    have hzr := hbr.size
    unfold maxLen at hm9
    cases l with
    | nil =>
      clear hN
      go_wp2_with fail
      go_ret2
      have h := HN.out
      have hn1 := h.n1
      have hn0 := h.n0
      simp only [GT.prodL] at hn1
      have hn : n = 0 := by omega
      have h5 := h.nth [] (by rw [hn]; exact .nil)
      rw [List.append_nil] at h5
      have h6 := GT.cost_ok HK.out.1
      have h7 := h.tl
      exact ⟨⟨_, t, rfl, h.out, h.tv, by omega, h5⟩, hbr⟩
    | cons g1 rest =>
      obtain ⟨bl, off, rfl, hlt1, hs1, hc9⟩ := hg9.at' (by simp)
      obtain ⟨k2, a2, b2, t2, ad2, cap2, c0, c1, c2, c3, hg2⟩ := hc9 0 (by simp)
      simp only [Nat.zero_mul, Nat.add_zero, List.getElem_cons_zero] at c0 c1 c2 c3 hg2
      clear hc9 hN
      have HG9 := Lib.hid hg9
      clear hg9
      have q0 : (0 : Int) < ((g1 :: rest).length : Int) := by simp
      have q1 : ((g1 :: rest).length : Int) = (rest.length : Int) + 1 := by simp
      have hl10 : rest.length + 1 ≤ cap9 := hl9
      go_wp2_with fail
      go_region
      have hrv : ∃ adr, (if cap9 = 1 then some (⟨bl, off, none⟩ : Addr) else some ⟨bl, off + 4, none⟩) = some adr ∧ GsAt w wo (fun b => ov.ownBlock ≠ some b) (some adr) rest := by
        by_cases hc1 : cap9 = 1
        · have : rest = [] := List.length_eq_zero_iff.1 (by omega)
          subst this
          exact ⟨⟨bl, off, none⟩, by rw [if_pos hc1], GsAt.nil _ _ _ _⟩
        · exact ⟨⟨bl, off + 4, none⟩, by rw [if_neg hc1], HG9.out.tail⟩
      obtain ⟨adr, hadr, hgr⟩ := hrv
      rw [hadr]
      have hB3 : Below wo.heap.size wo (wo.alloc (.cells #[.int .i64 k2, .int .i64 a2, .int .i64 b2, .slice ad2 t2 cap2] 43)).drew := by repeat (first | with_reducible assumption | with_reducible exact Below.refl _ _ | with_reducible apply Below.drew | (with_reducible refine Below.alloc ?_ (by first | omega | (simp only [World.size_alloc, size_setCell, size_drew, size_drewN]; omega) | (dsimp only; omega) | (simp only [World.size_alloc, size_setCell, size_drew, size_drewN]; dsimp only; omega)) _) | (with_reducible refine Below.setCell ?_ (by first | omega | (simp only [World.size_alloc, size_setCell, size_drew, size_drewN]; omega) | (dsimp only; omega) | (simp only [World.size_alloc, size_setCell, size_drew, size_drewN]; dsimp only; omega)) _))
      have x3 : Blk (wo.alloc (.cells #[.int .i64 k2, .int .i64 a2, .int .i64 b2, .slice ad2 t2 cap2] 43)).drew wo.heap.size #[.int .i64 k2, .int .i64 a2, .int .i64 b2, .slice ad2 t2 cap2] 43 := (Blk.new _ _ _).drew
      have hz3 : (wo.alloc (.cells #[.int .i64 k2, .int .i64 a2, .int .i64 b2, .slice ad2 t2 cap2] 43)).drew.heap.size = wo.heap.size + 1 := by simp [size_drew]
      have HGR : Hid (GsV w wo (fun b => ov.ownBlock ≠ some b) (.slice (some adr) rest.length (cap9 - 1)) rest) := ⟨some adr, cap9 - 1, rfl, by omega, by unfold maxLen; omega, (fun e => by cases e), hgr⟩
      have HGN := Lib.hid hg2
      clear hgr hadr q0 q1 c0 c1 c2 c3 hg2 hs1 hlt1 HG9 hn9
      generalize (wo.alloc (.cells #[.int .i64 k2, .int .i64 a2, .int .i64 b2, .slice ad2 t2 cap2] 43)).drew = W3 at *
      have d0 := x3.cell 0
      have d3 := x3.cell 3
      simp only [List.getElem?_toArray, List.getElem?_cons_succ, List.getElem?_cons_zero] at d0 d3
      have hlo := Lib.hid (fun b e => (HN.out.out.form2 b e))
      have hlen : rest.length ≤ 1399680 := by
        have h1 := HN.out.wb
        have h2 := GT.wt_ok HK.out.1
        have h3 := GT.wtL_len (g1 :: rest)
        simp only [List.length_cons] at h3
        omega
      obtain ⟨k3, a3, b3, s3, ad3, cap3, hmk, hv3, _, _, _, hl3, hm3, hs3⟩ := HGN.out.form
      simp only [Value.agg.injEq] at hv3
      have e0 := congrArg (fun z : Array Value => z[0]?) hv3
      have e1 := congrArg (fun z : Array Value => z[1]?) hv3
      have e2 := congrArg (fun z : Array Value => z[2]?) hv3
      have e3 := congrArg (fun z : Array Value => z[3]?) hv3
      simp at e0 e1 e2 e3
      obtain ⟨rfl, rfl, rfl⟩ := e3
      subst e0 e1 e2
      clear hv3
      subst hmk
      have hok := HN.out.ok.cons.1
      by_cases hc : GT.Chs (.mk k2 a2 b2 s3)
      · have hne : (k2 == 3) = false := by
          simp only [GT.Chs, GT.kind] at hc
          simp; omega
        have HC := Lib.hid hc
        have hpr := HN.out.pr
        have hokr := Lib.hid (HN.out.ok.cons.2)
        have hprr : GT.prodL rest ≤ 1048576 := by
          have h1 := hok.pos
          have h2 := hokr.out.pos
          have := Int.mul_le_mul_of_nonneg_right h1 (show 0 ≤ GT.prodL rest by omega)
          simp only [GT.prodL] at hpr
          omega
        have CP := Lib.hid (fun W (h : Below wo.heap.size wo W) => product_any rest hokr.out hprr _ _ w W (hbr.trans (h.mono hzr)) (HGR.out.keepB h))
        have CB := Lib.hid (fun W (h : Below wo.heap.size wo W) => branches_any (.mk k2 a2 b2 s3) hok hc _ w W (hbr.trans (h.mono hzr)) HGN.out)
        have HOK := Lib.hid hok
        have HPR := Lib.hid hprr
        clear hc hpr hprr hok
        obtain ⟨pr, hpre⟩ : ∃ pr, pr = GT.prodL rest := ⟨_, rfl⟩
        rw [← hpre] at CP
        have HPE := Lib.hid hpre
        clear hpre
        go_wp2_with fail
        refine (CP.out _ (by exact hB3)).mono ?_
        rintro e w4 ⟨rfl, hb4⟩
        have hB4 : Below wo.heap.size wo w4 := hB3.trans (hb4.mono (by omega))
        have x4 := x3.ext hb4
        have f0 := x4.cell 0
        have f1 := x4.cell 1
        have f2 := x4.cell 2
        have f3 := x4.cell 3
        simp only [List.getElem?_toArray, List.getElem?_cons_succ, List.getElem?_cons_zero] at f0 f1 f2 f3
        clear d0 d3 hb4
        go_wp2_with fail
        refine (CB.out _ hB4).mono ?_
        rintro e w5 ⟨⟨u, rfl, _, hbrs⟩, hb5⟩
        have hB5 : Below wo.heap.size wo w5 := hB4.trans (hb5.mono hB4.size)
        have hz4 := hB4.size
        obtain ⟨uad, ucap, rfl, hul, hum, hun, huc⟩ := hbrs
        unfold maxLen at hum
        have HUC := Lib.hid huc
        clear huc f0 f1 f2 f3 CP CB x4 x3
        have hbl := GT.brs_len HOK.out.1 HC.out
        have hbl1 := hbl.1
        have hbl2 := hbl.2
        clear hbl
        obtain ⟨Bn, hBn⟩ : ∃ Bn, Bn = (GT.brs (.mk k2 a2 b2 s3)).length := ⟨_, rfl⟩
        rw [← hBn] at hbl1 hbl2 hul
        rw [← hBn]
        have HBN := Lib.hid hBn
        clear hBn
        go_wp2_with fail
        go_loopw [1, 8, 57] (fun m o i w6 => ∃ (j : Nat) (n' : Int), j ≤ Bn ∧ i = .int .i64 j ∧ m = .int .i64 n' ∧ o = ov ∧ 0 ≤ n' ∧ n' ≤ 1048576 ∧ Hid (n' + pr * GT.sumP ((GT.brs (.mk k2 a2 b2 s3)).take j) = n) ∧ Below w5.heap.size w5 w6) (fun _ _ i _ => Bn - (intOf i).toNat)
        case atStart => exact ⟨0, n, by omega, rfl, rfl, rfl, HN.out.n0, by have h1 := HN.out.n1; have h2 := HN.out.pr; omega, (show n + pr * GT.sumP ((GT.brs (.mk k2 a2 b2 s3)).take 0) = n by simp [GT.sumP]), Below.refl _ _⟩
        case round =>
          obtain ⟨j, n', hj, rfl, rfl, rfl, hn0, hn1, HNN, hb6⟩ := hrel
          by_cases hlt : j < Bn
          · have hl : (j : Int) < (Bn : Int) := by omega
            have hp0 : (0 : Int) ≤ (j : Int) := by omega
            obtain ⟨ubl, uoff, rfl, hub1, hub2, huu⟩ := HUC.out (by rw [← HBN.out]; omega)
            have hjB : j < (GT.brs (.mk k2 a2 b2 s3)).length := by rw [← HBN.out]; exact hlt
            obtain ⟨uv, huv, huR⟩ := huu j hjB
            have huv6 := (hb6.cell (p := ⟨ubl, _, none⟩) hub1).trans huv
            have huR6 := Lib.hid (huR.keepB hb6)
            obtain ⟨va, vn, vc, rfl⟩ : ∃ a n c, uv = .slice a n c := by obtain ⟨a, c, e, _⟩ := huR; exact ⟨a, _, c, e⟩
            have hbk := (GT.ok_brs HOK.out HC.out).2 _ (List.getElem_mem hjB)
            have hz5 := hB5.size
            have hz45 := hb5.size
            have hz6 := hb6.size
            have hB6 : Below wo.heap.size wo wr := hB5.trans (hb6.mono hz5)
            have hpm : 1 ≤ GT.prodL (GT.brs (.mk k2 a2 b2 s3))[j] ∧ pr * GT.prodL (GT.brs (.mk k2 a2 b2 s3))[j] ≤ 1048576 := by
              have h1 := hbk.pos
              have h2 := GT.branch_bd HOK.out HC.out hokr.out hjB (i := GT.prodL ((GT.brs (.mk k2 a2 b2 s3))[j] ++ rest) - 1) (by have := (hbk.append hokr.out).pos; omega) (by omega)
              have h3 := HN.out.pr
              have h4 := GT.prodL_append (GT.brs (.mk k2 a2 b2 s3))[j] rest
              rw [← HPE.out] at h4
              rw [Int.mul_comm] at h4
              exact ⟨h1, by omega⟩
            have hpb : GT.prodL (GT.brs (.mk k2 a2 b2 s3))[j] ≤ 1048576 := by
              have h1 := hokr.out.pos
              rw [← HPE.out] at h1
              have := Int.mul_le_mul_of_nonneg_right h1 (show 0 ≤ GT.prodL (GT.brs (.mk k2 a2 b2 s3))[j] by omega)
              omega
            have CQ := Lib.hid (fun W (h : Below wr.heap.size wr W) => product_any _ hbk hpb _ _ w W (hbr.trans (hB6.mono hzr |>.trans (h.mono (by omega)))) (huR6.out.keepB h))
            have HST := Lib.hid (GT.sumP_take_succ (GT.brs (.mk k2 a2 b2 s3)) j hjB)
            have hp1 := hpm.1
            have hp2 := hpm.2
            clear hpm hpb huu huR huv hbk
            obtain ⟨pb, hpb⟩ : ∃ pb, pb = GT.prodL (GT.brs (.mk k2 a2 b2 s3))[j] := ⟨_, rfl⟩
            rw [← hpb] at CQ HST hp1 hp2
            have HPB := Lib.hid hpb
            clear hpb
            have hpp : 0 ≤ pr * pb := by
              have h1 := hokr.out.pos
              rw [← HPE.out] at h1
              exact Int.mul_nonneg (by omega) (by omega)
            have hwr : IntKind.i64.wrap (pr * pb) = pr * pb := IntWalk.i64_in _ (by omega)
            obtain ⟨pm, hpm⟩ : ∃ pm, pr * pb = pm := ⟨_, rfl⟩
            have hwr2 : IntKind.i64.wrap (pr * pb) = pm := hwr.trans hpm
            rw [hpm] at hp2 hpp
            have HPM := Lib.hid hpm
            have HWR := Lib.hid hwr2
            clear hpm hwr hwr2
            go_wp2_with fail
            refine (CQ.out _ (by repeat (first | with_reducible assumption | with_reducible exact Below.refl _ _ | with_reducible apply Below.drew | (with_reducible refine Below.alloc ?_ (by first | omega | (simp only [World.size_alloc, size_setCell, size_drew, size_drewN]; omega) | (dsimp only; omega) | (simp only [World.size_alloc, size_setCell, size_drew, size_drewN]; dsimp only; omega)) _) | (with_reducible refine Below.setCell ?_ (by first | omega | (simp only [World.size_alloc, size_setCell, size_drew, size_drewN]; omega) | (dsimp only; omega) | (simp only [World.size_alloc, size_setCell, size_drew, size_drewN]; dsimp only; omega)) _)))).mono ?_
            rintro e w7 ⟨rfl, hb7⟩
            have hwr := HWR.out
            by_cases hge : pm ≤ n'
            · go_wp2_with fail
              clear hwr
              have hB7 : Below w5.heap.size w5 w7 := hb6.trans (hb7.mono hz6)
              refine ⟨⟨j + 1, n' - pm, by omega, by go_num, rfl, rfl, by omega, by omega, ?_, hB7⟩, by simp [intOf]; omega⟩
              have h1 := HNN.out
              show n' - pm + pr * GT.sumP ((GT.brs (.mk k2 a2 b2 s3)).take (j + 1)) = n
              rw [HST.out, Int.mul_add, HPM.out]
              omega
            · have hB7 : Below wo.heap.size wo w7 := hB6.trans (hb7.mono (by omega))
              have hB7' : Below w.heap.size w w7 := hbr.trans (hB7.mono hzr)
              have hz7 := hb7.size
              have hzo7 := hB7.size
              have hown7 := HN.out.out.kept hB7
              have hrest7 := HGR.out.keepB hB7
              have huR7 := huR6.out.keepB hb7
              have htl : t.length ≤ 1399680 := by have h1 := HN.out.tl; have h2 := GT.cost_ok HK.out.1; omega
              have HO7 := Lib.hid hown7
              have HR7 := Lib.hid hrest7
              have HU7 := Lib.hid huR7
              clear hown7 hrest7 huR7
              have hlo8 := hlo
              have hlenj : (GT.brs (.mk k2 a2 b2 s3))[j].length ≤ 1399680 := by
                have h1 := HN.out.wb
                have h2 := GT.wt_ok HK.out.1
                have h3 := GT.wtL_len (GT.brs (.mk k2 a2 b2 s3))[j]
                have h4 := GT.wt_brs (GT.check_ok HOK.out.1) HC.out hjB
                simp only [GT.wtL] at h1
                omega
              have hS2 : Hid (∀ b, w4.heap.size ≤ b → u8.ownBlock ≠ some b) := fun b hb e => by have := hlo8.out b e; omega
              go_wp2_with (first | (at_builtin; refine append_int1 (v := u8) (o := ⟨some 75, _, _, _, _, _⟩) rfl _ _ rfl rfl (HO7.out.kept (by repeat (first | with_reducible assumption | with_reducible exact Below.refl _ _ | with_reducible apply Below.drew | (with_reducible refine Below.alloc ?_ (by first | omega | (simp only [World.size_alloc, size_setCell, size_drew, size_drewN]; omega) | (dsimp only; omega) | (simp only [World.size_alloc, size_setCell, size_drew, size_drewN]; dsimp only; omega)) _) | (with_reducible refine Below.setCell ?_ (by first | omega | (simp only [World.size_alloc, size_setCell, size_drew, size_drewN]; omega) | (dsimp only; omega) | (simp only [World.size_alloc, size_setCell, size_drew, size_drewN]; dsimp only; omega)) _)))) rfl (Blk.newAt rfl) (by omega) (by simp; omega) ?_; intro gi capi w8 g1 g2 g3 g4; obtain ⟨cs2, hcs2, hs2⟩ := (gsv_behind HR7.out (fun b hb => hb) g2 g3).src; obtain ⟨cs1, hcs1, hs1⟩ := (gsv_behind HU7.out hS2.out g2 g3).src; have hB8 : Below w.heap.size w w8 := (hB7'.alloc (by omega) _).grown g2 (by simp; omega) (fun k hk => (hlo8.out k hk).1); have G1 := Lib.hid g1; clear g1 g2 g3) | (at_builtin; refine append_gens (w0 := w) (v := .slice (some ⟨w8.heap.size, 0, none⟩) 0 0) (o := ⟨some 78, _, _, _, _, _⟩) rfl _ _ rfl rfl (OwnGs.emptyAt (w := w8) (lo := w8.heap.size) (by omega) rfl) rfl (hs1.ext (by repeat (first | with_reducible assumption | with_reducible exact Below.refl _ _ | with_reducible apply Below.drew | (with_reducible refine Below.alloc ?_ (by first | omega | (simp only [World.size_alloc, size_setCell, size_drew, size_drewN]; omega) | (dsimp only; omega) | (simp only [World.size_alloc, size_setCell, size_drew, size_drewN]; dsimp only; omega)) _) | (with_reducible refine Below.setCell ?_ (by first | omega | (simp only [World.size_alloc, size_setCell, size_drew, size_drewN]; omega) | (dsimp only; omega) | (simp only [World.size_alloc, size_setCell, size_drew, size_drewN]; dsimp only; omega)) _)))) hcs1 (by simp; omega) (by simp) ?_; intro v9 w9 k1 k2 k3 k4; have hb9 : Below w8.heap.size w8 w9 := (((Below.refl _ _).alloc (Nat.le_refl _) _).grown k2 (by simp) (fun k hk => by simp [Value.ownBlock] at hk; omega)); clear k2 k3 k4) | (at_builtin; refine append_gens (w0 := w) (v := v9) (o := ⟨some 80, _, _, _, _, _⟩) rfl _ _ rfl rfl k1 rfl (hs2.ext hb9) hcs2 (by simp; omega) (by exact hb9.size) ?_; intro v10 w10 m1 m2 m3 m4))
              have hb10 : Below w8.heap.size w8 w10 := hb9.grown m2 hb9.size (fun k hk => (k1.form2 k hk).1)
              rw [List.nil_append] at m1
              have H : Hid (_ ∧ _) := HN.out.choose HC.out hjB (by rw [← HPE.out]; exact HNN.out) hn0 (by rw [← HPE.out, ← HPB.out, HPM.out]; omega) (hB8.trans (hb10.mono hB8.size)) (G1.out.kept hb10) (own_v m1 (fun b e => by simp [Value.ownBlock] at e; omega))
              clear k1 m1 m2 m3 m4 hb9 hcs1 hcs2 hs1 hs2 hwr hb10
              go_roundg (GT.wtL ((GT.brs (.mk k2 a2 b2 s3))[j] ++ rest))
              case measure => exact H.out.2
              case rel => exact ⟨_, _, _, rfl, H.out.1⟩
          · exfalso
            obtain rfl : j = Bn := by omega
            have h1 := HNN.out
            rw [HBN.out, List.take_length, (GT.ok_brs HOK.out HC.out).1, HPE.out] at h1
            have h2 := HN.out.n1
            simp only [GT.prodL] at h2
            rw [Int.mul_comm] at h2
            omega
      · have hk13 : k2 = 1 ∨ k2 = 3 := by
          simp only [GT.Chs, GT.kind] at hc
          rcases GT.one_cases (GT.ok_one (GT.check_ok hok.1)) with ⟨e, _⟩ | ⟨e, h0, h0', h1, h2, h3⟩ | e | ⟨e, h1, h2, h3⟩ | ⟨e, h1⟩ <;> omega
        clear hc
        rcases hk13 with rfl | rfl
        · have hokr := Lib.hid (HN.out.ok.cons.2)
          have hprr : GT.prodL rest ≤ 1048576 := by
            have hpr := HN.out.pr
            simp [GT.prodL, GT.count] at hpr
            exact hpr
          have CP := Lib.hid (fun W (h : Below wo.heap.size wo W) => product_any rest hokr.out hprr _ _ w W (hbr.trans (h.mono hzr)) (HGR.out.keepB h))
          have hne : ((1 : Int) == 3) = false := by decide
          clear hprr hok
          go_wp2_with fail
          refine (CP.out _ (by exact hB3)).mono ?_
          rintro e w4 ⟨rfl, hb4⟩
          have hB4 : Below wo.heap.size wo w4 := hB3.trans (hb4.mono (by omega))
          have x4 := x3.ext hb4
          have f0 := x4.cell 0
          have f1 := x4.cell 1
          have f2 := x4.cell 2
          have f3 := x4.cell 3
          simp only [List.getElem?_toArray, List.getElem?_cons_succ, List.getElem?_cons_zero] at f0 f1 f2 f3
          clear d0 d3 hb4
          go_wp2_with fail
          refine (branches_1 _ _ s3 _ _ _ w _).mono ?_
          rintro e w5 ⟨rfl, hb5⟩
          have hB5 : Below wo.heap.size wo w5 := hB4.trans (hb5.mono hB4.size)
          have H := Lib.hid (HN.out.just hB5 (HGR.out.keepB hB5))
          clear f0 f1 f2 f3 hb5
          go_wp2_with fail
          go_loopw [1, 8, 9, 57] (fun m o v i w6 => m = .int .i64 n ∧ i = .int .i64 0 ∧ o = ov ∧ v = .slice (some adr) rest.length (cap9 - 1) ∧ w6 = w5) (fun _ _ _ _ _ => 0)
          case atStart => exact ⟨rfl, rfl, rfl, rfl, rfl⟩
          case round =>
            obtain ⟨rfl, rfl, rfl, rfl, rfl⟩ := hrel
            go_wp2_with fail
            go_roundg (GT.wtL rest)
            case measure => exact H.out.2
            case rel => exact ⟨_, _, _, rfl, H.out.1⟩
        · have hgs := hs3.gs (w := W3) (hbr.trans (hB3.mono hzr))
          have hlen3 : s3.length ≤ 29 := (GT.parts_kids (GT.check_parts hok.1)).1
          obtain ⟨cs1, hcs1, hsrc1⟩ := hgs.src HGN.out.nil0
          obtain ⟨cs2, hcs2, hsrc2⟩ := (HGR.out.keepB hB3).src
          have q2 : (3 : Int) == 3 := rfl
          go_wp2_with (first | (at_builtin; refine append_gens (w0 := w) (v := .slice (some ⟨wo.heap.size + 1, 0, none⟩) 0 0) (o := ⟨some 48, _, _, _, _, _⟩) rfl _ _ rfl rfl (OwnGs.emptyAt (w := W3) (lo := wo.heap.size) (by omega) (by omega)) rfl (hsrc1.ext (by repeat (first | with_reducible assumption | with_reducible exact Below.refl _ _ | with_reducible apply Below.drew | (with_reducible refine Below.alloc ?_ (by first | omega | (simp only [World.size_alloc, size_setCell, size_drew, size_drewN]; omega) | (dsimp only; omega) | (simp only [World.size_alloc, size_setCell, size_drew, size_drewN]; dsimp only; omega)) _) | (with_reducible refine Below.setCell ?_ (by first | omega | (simp only [World.size_alloc, size_setCell, size_drew, size_drewN]; omega) | (dsimp only; omega) | (simp only [World.size_alloc, size_setCell, size_drew, size_drewN]; dsimp only; omega)) _)))) hcs1 (by simp; omega) (by simp; omega) ?_; intro v5 w5 g1 g2 g3 g4; have hb5 : Below wo.heap.size wo w5 := ((hB3.alloc (by omega) _).grown g2 (by simp; omega) (fun k hk => by simp [Value.ownBlock] at hk; omega)); have hb5' : Below W3.heap.size W3 w5 := (((Below.refl _ _).alloc (Nat.le_refl _) _).grown g2 (by simp) (fun k hk => by simp [Value.ownBlock] at hk; omega)); clear g2 g3 g4) | (at_builtin; refine append_gens (w0 := w) (v := v5) (o := ⟨some 50, _, _, _, _, _⟩) rfl _ _ rfl rfl g1 rfl (hsrc2.ext hb5') hcs2 (by simp; omega) (by exact hb5.size) ?_; intro v6 w6 g5 g6 g7 g8))
          have hB6 := hb5.grown g6 hb5.size (fun k hk => (g1.form2 k hk).1)
          rw [List.nil_append] at g5
          have H := Lib.hid (HN.out.both hB6 g5)
          clear g1 g5 g6 g7 g8 hb5 hb5' hcs1 hcs2 hsrc1 hsrc2
          go_roundg (GT.wtL (s3 ++ rest))
          case measure => exact H.out.2
          case rel => exact ⟨_, _, _, rfl, H.out.1⟩
set_option maxHeartbeats 1000000 in
theorem nth_bad (g : GT) (i : Int) (hc : (GT.countR g).2 ≠ 0) (v : Value) (w : World) (hg : GenAt w v g) :
    Calls Try.prog 28 #[v, .int .i64 i] w fun e w' => e = .returned (.tuple #[.slice none 0 0, errV (GT.countR g).2]) ∧ Below w.heap.size w w' := by
  obtain ⟨k, a, b, t, ad, cap, rfl⟩ := hg.shape
  have C1 := Lib.hid (fun W (h : Below w.heap.size w W) => gen_count_any g (.agg #[.int .i64 k, .int .i64 a, .int .i64 b, .slice ad t cap]) W (hg.ext h))
  rw [errV_ne hc] at *
  generalize GT.countR g = r at *
  clear hc hg
  go_enter Try.func28, Try.ntmps28
  go_wp2_with fail
  refine (C1.out _ (by repeat (first | with_reducible assumption | with_reducible exact Below.refl _ _ | with_reducible apply Below.drew | (with_reducible refine Below.alloc ?_ (by first | omega | (simp only [World.size_alloc, size_setCell, size_drew, size_drewN]; omega) | (dsimp only; omega) | (simp only [World.size_alloc, size_setCell, size_drew, size_drewN]; dsimp only; omega)) _) | (with_reducible refine Below.setCell ?_ (by first | omega | (simp only [World.size_alloc, size_setCell, size_drew, size_drewN]; omega) | (dsimp only; omega) | (simp only [World.size_alloc, size_setCell, size_drew, size_drewN]; dsimp only; omega)) _)))).mono ?_
  rintro e w1 ⟨rfl, hb1⟩
  have hB1 : Below w.heap.size w w1 := Below.trans (by repeat (first | with_reducible assumption | with_reducible exact Below.refl _ _ | with_reducible apply Below.drew | (with_reducible refine Below.alloc ?_ (by first | omega | (simp only [World.size_alloc, size_setCell, size_drew, size_drewN]; omega) | (dsimp only; omega) | (simp only [World.size_alloc, size_setCell, size_drew, size_drewN]; dsimp only; omega)) _) | (with_reducible refine Below.setCell ?_ (by first | omega | (simp only [World.size_alloc, size_setCell, size_drew, size_drewN]; omega) | (dsimp only; omega) | (simp only [World.size_alloc, size_setCell, size_drew, size_drewN]; dsimp only; omega)) _))) (hb1.mono (by first | omega | (simp only [World.size_alloc, size_setCell, size_drew, size_drewN]; omega) | (dsimp only; omega) | (simp only [World.size_alloc, size_setCell, size_drew, size_drewN]; dsimp only; omega)))
  obtain ⟨hc1, hf1, hz1⟩ := bcell hb1
  try simp only [World.size_alloc, size_setCell, size_drew, size_drewN] at hz1
  clear hb1
  have y1_0 : w.heap.size < w1.heap.size := by omega
  go_wp2_with fail
  go_ret2
  exact ⟨rfl, by repeat (first | with_reducible assumption | with_reducible exact Below.refl _ _ | with_reducible apply Below.drew | (with_reducible refine Below.alloc ?_ (by first | omega | (simp only [World.size_alloc, size_setCell, size_drew, size_drewN]; omega) | (dsimp only; omega) | (simp only [World.size_alloc, size_setCell, size_drew, size_drewN]; dsimp only; omega)) _) | (with_reducible refine Below.setCell ?_ (by first | omega | (simp only [World.size_alloc, size_setCell, size_drew, size_drewN]; omega) | (dsimp only; omega) | (simp only [World.size_alloc, size_setCell, size_drew, size_drewN]; dsimp only; omega)) _))⟩
set_option maxHeartbeats 1000000 in
theorem nth_out (g : GT) (hk : GT.Ok g) (i : Int) (h : i < 0 ∨ GT.count g ≤ i) (v : Value) (w : World) (hg : GenAt w v g) :
    Calls Try.prog 28 #[v, .int .i64 i] w fun e w' => e = .returned (.tuple #[.slice none 0 0, errV 1]) ∧ Below w.heap.size w w' := by
  obtain ⟨k, a, b, t, ad, cap, rfl⟩ := hg.shape
  have C1 := Lib.hid (fun W (h : Below w.heap.size w W) => gen_count_any g (.agg #[.int .i64 k, .int .i64 a, .int .i64 b, .slice ad t cap]) W (hg.ext h))
  rw [hk.countR, errV_zero] at C1
  generalize GT.count g = cn at *
  clear hg hk
  rcases h with h | h
  · go_enter Try.func28, Try.ntmps28
    go_wp2_with fail
    refine (C1.out _ (by repeat (first | with_reducible assumption | with_reducible exact Below.refl _ _ | with_reducible apply Below.drew | (with_reducible refine Below.alloc ?_ (by first | omega | (simp only [World.size_alloc, size_setCell, size_drew, size_drewN]; omega) | (dsimp only; omega) | (simp only [World.size_alloc, size_setCell, size_drew, size_drewN]; dsimp only; omega)) _) | (with_reducible refine Below.setCell ?_ (by first | omega | (simp only [World.size_alloc, size_setCell, size_drew, size_drewN]; omega) | (dsimp only; omega) | (simp only [World.size_alloc, size_setCell, size_drew, size_drewN]; dsimp only; omega)) _)))).mono ?_
    rintro e w1 ⟨rfl, hb1⟩
    have hB1 : Below w.heap.size w w1 := Below.trans (by repeat (first | with_reducible assumption | with_reducible exact Below.refl _ _ | with_reducible apply Below.drew | (with_reducible refine Below.alloc ?_ (by first | omega | (simp only [World.size_alloc, size_setCell, size_drew, size_drewN]; omega) | (dsimp only; omega) | (simp only [World.size_alloc, size_setCell, size_drew, size_drewN]; dsimp only; omega)) _) | (with_reducible refine Below.setCell ?_ (by first | omega | (simp only [World.size_alloc, size_setCell, size_drew, size_drewN]; omega) | (dsimp only; omega) | (simp only [World.size_alloc, size_setCell, size_drew, size_drewN]; dsimp only; omega)) _))) (hb1.mono (by first | omega | (simp only [World.size_alloc, size_setCell, size_drew, size_drewN]; omega) | (dsimp only; omega) | (simp only [World.size_alloc, size_setCell, size_drew, size_drewN]; dsimp only; omega)))
    obtain ⟨hc1, hf1, hz1⟩ := bcell hb1
    try simp only [World.size_alloc, size_setCell, size_drew, size_drewN] at hz1
    clear hb1
    have y1_0 : w.heap.size < w1.heap.size := by omega
    go_wp2_with fail
    go_ret2
    exact ⟨rfl, by repeat (first | with_reducible assumption | with_reducible exact Below.refl _ _ | with_reducible apply Below.drew | (with_reducible refine Below.alloc ?_ (by first | omega | (simp only [World.size_alloc, size_setCell, size_drew, size_drewN]; omega) | (dsimp only; omega) | (simp only [World.size_alloc, size_setCell, size_drew, size_drewN]; dsimp only; omega)) _) | (with_reducible refine Below.setCell ?_ (by first | omega | (simp only [World.size_alloc, size_setCell, size_drew, size_drewN]; omega) | (dsimp only; omega) | (simp only [World.size_alloc, size_setCell, size_drew, size_drewN]; dsimp only; omega)) _))⟩
  · by_cases h0 : i < 0
    · go_enter Try.func28, Try.ntmps28
      go_wp2_with fail
      refine (C1.out _ (by repeat (first | with_reducible assumption | with_reducible exact Below.refl _ _ | with_reducible apply Below.drew | (with_reducible refine Below.alloc ?_ (by first | omega | (simp only [World.size_alloc, size_setCell, size_drew, size_drewN]; omega) | (dsimp only; omega) | (simp only [World.size_alloc, size_setCell, size_drew, size_drewN]; dsimp only; omega)) _) | (with_reducible refine Below.setCell ?_ (by first | omega | (simp only [World.size_alloc, size_setCell, size_drew, size_drewN]; omega) | (dsimp only; omega) | (simp only [World.size_alloc, size_setCell, size_drew, size_drewN]; dsimp only; omega)) _)))).mono ?_
      rintro e w1 ⟨rfl, hb1⟩
      have hB1 : Below w.heap.size w w1 := Below.trans (by repeat (first | with_reducible assumption | with_reducible exact Below.refl _ _ | with_reducible apply Below.drew | (with_reducible refine Below.alloc ?_ (by first | omega | (simp only [World.size_alloc, size_setCell, size_drew, size_drewN]; omega) | (dsimp only; omega) | (simp only [World.size_alloc, size_setCell, size_drew, size_drewN]; dsimp only; omega)) _) | (with_reducible refine Below.setCell ?_ (by first | omega | (simp only [World.size_alloc, size_setCell, size_drew, size_drewN]; omega) | (dsimp only; omega) | (simp only [World.size_alloc, size_setCell, size_drew, size_drewN]; dsimp only; omega)) _))) (hb1.mono (by first | omega | (simp only [World.size_alloc, size_setCell, size_drew, size_drewN]; omega) | (dsimp only; omega) | (simp only [World.size_alloc, size_setCell, size_drew, size_drewN]; dsimp only; omega)))
      obtain ⟨hc1, hf1, hz1⟩ := bcell hb1
      try simp only [World.size_alloc, size_setCell, size_drew, size_drewN] at hz1
      clear hb1
      have y1_0 : w.heap.size < w1.heap.size := by omega
      go_wp2_with fail
      go_ret2
      exact ⟨rfl, by repeat (first | with_reducible assumption | with_reducible exact Below.refl _ _ | with_reducible apply Below.drew | (with_reducible refine Below.alloc ?_ (by first | omega | (simp only [World.size_alloc, size_setCell, size_drew, size_drewN]; omega) | (dsimp only; omega) | (simp only [World.size_alloc, size_setCell, size_drew, size_drewN]; dsimp only; omega)) _) | (with_reducible refine Below.setCell ?_ (by first | omega | (simp only [World.size_alloc, size_setCell, size_drew, size_drewN]; omega) | (dsimp only; omega) | (simp only [World.size_alloc, size_setCell, size_drew, size_drewN]; dsimp only; omega)) _))⟩
    · go_enter Try.func28, Try.ntmps28
      go_wp2_with fail
      refine (C1.out _ (by repeat (first | with_reducible assumption | with_reducible exact Below.refl _ _ | with_reducible apply Below.drew | (with_reducible refine Below.alloc ?_ (by first | omega | (simp only [World.size_alloc, size_setCell, size_drew, size_drewN]; omega) | (dsimp only; omega) | (simp only [World.size_alloc, size_setCell, size_drew, size_drewN]; dsimp only; omega)) _) | (with_reducible refine Below.setCell ?_ (by first | omega | (simp only [World.size_alloc, size_setCell, size_drew, size_drewN]; omega) | (dsimp only; omega) | (simp only [World.size_alloc, size_setCell, size_drew, size_drewN]; dsimp only; omega)) _)))).mono ?_
      rintro e w1 ⟨rfl, hb1⟩
      have hB1 : Below w.heap.size w w1 := Below.trans (by repeat (first | with_reducible assumption | with_reducible exact Below.refl _ _ | with_reducible apply Below.drew | (with_reducible refine Below.alloc ?_ (by first | omega | (simp only [World.size_alloc, size_setCell, size_drew, size_drewN]; omega) | (dsimp only; omega) | (simp only [World.size_alloc, size_setCell, size_drew, size_drewN]; dsimp only; omega)) _) | (with_reducible refine Below.setCell ?_ (by first | omega | (simp only [World.size_alloc, size_setCell, size_drew, size_drewN]; omega) | (dsimp only; omega) | (simp only [World.size_alloc, size_setCell, size_drew, size_drewN]; dsimp only; omega)) _))) (hb1.mono (by first | omega | (simp only [World.size_alloc, size_setCell, size_drew, size_drewN]; omega) | (dsimp only; omega) | (simp only [World.size_alloc, size_setCell, size_drew, size_drewN]; dsimp only; omega)))
      obtain ⟨hc1, hf1, hz1⟩ := bcell hb1
      try simp only [World.size_alloc, size_setCell, size_drew, size_drewN] at hz1
      clear hb1
      have y1_0 : w.heap.size < w1.heap.size := by omega
      go_wp2_with fail
      go_ret2
      exact ⟨rfl, by repeat (first | with_reducible assumption | with_reducible exact Below.refl _ _ | with_reducible apply Below.drew | (with_reducible refine Below.alloc ?_ (by first | omega | (simp only [World.size_alloc, size_setCell, size_drew, size_drewN]; omega) | (dsimp only; omega) | (simp only [World.size_alloc, size_setCell, size_drew, size_drewN]; dsimp only; omega)) _) | (with_reducible refine Below.setCell ?_ (by first | omega | (simp only [World.size_alloc, size_setCell, size_drew, size_drewN]; omega) | (dsimp only; omega) | (simp only [World.size_alloc, size_setCell, size_drew, size_drewN]; dsimp only; omega)) _))⟩
end Go.Proofs.Ytjobgkcoblpbcaa
