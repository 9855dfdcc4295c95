/- The walk through tape.Parse: a text is read back just if it is a tape's own. -/
import Derived.Test.YtlhdiekibkdiaaaDoorRSI
import Derived.Test.YtlhdiekibkdiaaaDoorTTX
import Derived.Test.YtlhdiekibkdiaaaDoorGENC
import Derived.Test.YtlhdiekibkdiaaaDoorREG
import Derived.Maps.AppendAt
import Derived.Lib.AtoiAllCases
namespace Go.Proofs.YtlhdiekibkdiaaaDoor
set_option maxRecDepth 100000
open Go Go.RowKit Go.Shelf
set_option linter.unusedSimpArgs false
set_option linter.unusedVariables false
attribute [local go_sem] Oper.semAt_some
/-- What lies between two rounds of the loop in Parse. -/
structure ParI (M N : Nat) (s : List UInt8) (w : World) (pre : List (List UInt8)) (W : World) : Prop where
  o : ∃ v, Boxed W (M + 1 + 1 + 1) 25 v ∧ W.ownsRow (N + 3) 3 1 v pre.length (pre.map fun x => Value.int .i64 (numR x)) ∧ True
  s : Boxed W M 9 (.string ⟨s.toArray⟩)
  r : Boxed W (M + 1) 25 (.slice none 0 0)
  e : Boxed W (M + 1 + 1) 39 .nilIface
  c : ∃ x, Boxed W N 9 x
  b : Below M w W
  n : ∀ x ∈ pre, numOk x = true
  z : N + 3 ≤ W.heap.size
/-- What lies where a round has returned. -/
structure ParX (M : Nat) (w : World) (pre : List (List UInt8)) (W : World) : Prop where
  r : Boxed W (M + 1) 25 (.slice none 0 0)
  e : Boxed W (M + 1 + 1) 39 (.iface 27 (.int .i64 3))
  b : Below M w W
  n : ∃ x ∈ pre, numOk x = false
theorem boxed_ownF {W W' : World} {row : Option Nat} {B b : Nat} {t : TypeId} {v : Value} (h : Boxed W b t v) (hg : W.grownBy W' row) (hr : ∀ r, row = some r → B ≤ r ∧ ∃ o : Obj, W.heap[r]? = some o ∧ o.isCells = false) : Boxed W' b t v := by
  refine h.kept hg (fun e => ?_)
  obtain ⟨_, o, ho, hc⟩ := hr b e.symm
  rw [show W.heap[b]? = _ from h] at ho
  cases ho
  cases hc
theorem ParI.own (M N : Nat) (s : List UInt8) (w : World) (B : Nat) (hB : M ≤ B) (hM : M ≤ w.heap.size) : OwnFrom B (ParI M N s w) := by
  rintro pre W W' row h hg hr
  refine ⟨?_, boxed_ownF h.s hg hr, boxed_ownF h.r hg hr, boxed_ownF h.e hg hr, ?_, ?_, h.n, Nat.le_trans h.z hg.size⟩
  · exact holdsRow_own (N + 3) (M + 1 + 1 + 1) 25 3 1 (fun pre : List (List UInt8) => pre.length) (fun pre => pre.map fun x => Value.int .i64 (numR x)) (fun _ _ => True) pre W W' row h.o hg (fun r e => (hr r e).2)
  · obtain ⟨x, hx⟩ := h.c
    exact ⟨x, boxed_ownF hx hg hr⟩
  · exact h.b.grown hg (Nat.le_trans hM h.b.size) (fun r e => by have := (hr r e).1; omega)
theorem ParX.own (M : Nat) (w : World) (B : Nat) (hB : M ≤ B) (hM : M ≤ w.heap.size) : OwnFrom B (ParX M w) := by
  rintro pre W W' row h hg hr
  exact ⟨boxed_ownF h.r hg hr, boxed_ownF h.e hg hr, h.b.grown hg (Nat.le_trans hM h.b.size) (fun r e => by have := (hr r e).1; omega), h.n⟩
theorem ParI.set {M N : Nat} {s : List UInt8} {w : World} (hN : M + 1 + 1 + 1 < N) {pre : List (List UInt8)} {W : World} (h : ParI M N s w pre W) (v : Value) : ParI M N s w pre (W.setCell ⟨N, 0, none⟩ v) := by
  have hg := grownBy_setCell' W N v
  have k : ∀ {b : Nat} {t : TypeId} {u : Value}, Boxed W b t u → b < N → Boxed (W.setCell ⟨N, 0, none⟩ v) b t u := fun hb hlt => hb.kept hg (by simp; omega)
  obtain ⟨x, hx⟩ := h.c
  refine ⟨?_, k h.s (by omega), k h.r (by omega), k h.e (by omega), ⟨v, hx.set v⟩, h.b.setCell (by dsimp only; omega) _, h.n, Nat.le_trans h.z hg.size⟩
  obtain ⟨u, hu, hrow, _⟩ := h.o
  exact ⟨u, k hu (by omega), hrow.kept hg (.inr (hx.not_row (by decide) hrow).symm), trivial⟩
theorem row_weak {W : World} {base base' : Nat} {e : TypeId} {size : Nat} {v : Value} {k : Nat} {xs : List Value} (h : W.ownsRow base e size v k xs) (hb : base' ≤ base) : W.ownsRow base' e size v k xs := by
  refine ⟨h.1, ?_⟩
  rcases h.2 with h2 | ⟨g, cap, cur, hv, hg, r⟩
  · exact .inl h2
  · exact .inr ⟨g, cap, cur, hv, Nat.le_trans hb hg, r⟩
theorem row_below {W W' : World} {base : Nat} {e : TypeId} {size : Nat} {v : Value} {k : Nat} {xs : List Value} (h : W.ownsRow base e size v k xs) (hb : Below W.heap.size W W') : W'.ownsRow base e size v k xs := by
  refine ⟨h.1, ?_⟩
  rcases h.2 with h2 | ⟨g, cap, cur, hv, hg, hh, r⟩
  · exact .inl h2
  · exact .inr ⟨g, cap, cur, hv, hg, (hb.block g (Array.getElem?_eq_some_iff.1 hh).1).trans hh, r⟩
theorem tp_num64 (l : List UInt8) : In64 (numR l) := by
  unfold numR
  rcases h : Lib.atoiAll l with v | _ | _
  · exact Lib.atoiAll_bounds h
  · show In64 0; exact ⟨by decide, by decide⟩
  · show In64 (Lib.atoiSat l); unfold Lib.atoiSat; split <;> exact ⟨by decide, by decide⟩
theorem numOk_itoa {n : Int} (h : In64 n) : numOk (Lib.itoa n) = true := by unfold numOk; rw [atoi_itoa n h]
theorem numR_itoa {n : Int} (h : In64 n) : numR (Lib.itoa n) = n := by unfold numR; rw [atoi_itoa n h]
theorem tape_num {s : List UInt8} {m : List Int} (hs : s ≠ []) (h : IsTape s m) : (∀ x ∈ cutA [] s, numOk x = true) ∧ (cutA [] s).map numR = m := by
  rw [h.cut hs]
  refine ⟨fun x hx => ?_, ?_⟩
  · obtain ⟨n, hn, rfl⟩ := List.mem_map.1 hx
    exact numOk_itoa (h.1.in64 n hn)
  · rw [List.map_map]
    have : ∀ m : List Int, (∀ n ∈ m, In64 n) → m.map (numR ∘ Lib.itoa) = m := by
      intro m
      induction m with
      | nil => intro _; rfl
      | cons n m ih => intro hm; rw [List.map_cons, ih (fun k hk => hm k (by simp [hk]))]; simp [numR_itoa (hm n (by simp))]
    exact this m h.1.in64
/-- A region that does not panic. -/
def NrmQ (K : Act → World → Prop) : Exit → Act → World → Prop
  | .normal, a, w => K a w
  | _, _, _ => False
theorem wp_nrm {P : Program} {c : Code} {Q : Exit → Act → World → Prop} {a : Act} {w : World} (h : c.wp P (NrmQ fun a' w' => Q .normal a' w') a w) : c.wp P Q a w :=
  Code.wp_mono (fun e a w hq => by cases e <;> first | exact hq | exact hq.elim) h
/-- What Parse tells. -/
def TPaR (w : World) (s : List UInt8) (e : Ending) (w' : World) : Prop :=
  ((∃ v l, e = .returned (.tuple #[v, .nilIface]) ∧ IntsAt w' v l ∧ IsTape s l) ∨ (e = .returned (.tuple #[.slice none 0 0, errV 3]) ∧ ∀ l, ¬ IsTape s l)) ∧ Below w.heap.size w w'
set_option maxRecDepth 100000 in
set_option maxHeartbeats 4000000 in
theorem tparse_ne (s : List UInt8) (hs : s.length ≤ 100000000) (hne : s ≠ []) (w : World) (hP : PowAt w) (hE : NumErrsAt w) : Calls Tryd.prog 17 #[.string ⟨s.toArray⟩] w (TPaR w s) := by
  have HP := Lib.hid hP
  have HE := Lib.hid hE
  have hse : s.isEmpty = false := by
    cases s with
    | nil => exact absurd rfl hne
    | cons c r => rfl
  have HNE := Lib.hid hne
  clear hP hE hne
  refine (callsIn_wide (n := 5)).1 ?_
  refine callsIn_of_wp_marks Tryd.func17 rfl trivial ?_ rfl
  simp only [Tryd.ntmps17, List.size_toArray, List.length_cons, List.length_nil, Nat.reduceAdd, Nat.reduceSub, Array.replicate_succ, Array.replicate_zero, List.push_toArray, List.append_toArray, List.nil_append, List.cons_append]
  gi_wp2_with fail
  refine ⟨trivial, (callsIn_wide.2 (SplitSeq_any s _)).mono ?_⟩
  rintro e w' ⟨rfl, rfl⟩
  gi_wp2_with fail
  have A0 := (((Boxed.new w 9 (.string ⟨s.toArray⟩)).alloc (.cells #[.slice none 0 0] 25)).alloc (.cells #[.nilIface] 39)).alloc (.cells #[.slice none 0 0] 25)
  have A1 := ((Boxed.new (w.alloc (.cells #[.string ⟨s.toArray⟩] 9)) 25 (.slice none 0 0)).alloc (.cells #[.nilIface] 39)).alloc (.cells #[.slice none 0 0] 25)
  have A2 := (Boxed.new ((w.alloc (.cells #[.string ⟨s.toArray⟩] 9)).alloc (.cells #[.slice none 0 0] 25)) 39 .nilIface).alloc (.cells #[.slice none 0 0] 25)
  have A3 := Boxed.new (((w.alloc (.cells #[.string ⟨s.toArray⟩] 9)).alloc (.cells #[.slice none 0 0] 25)).alloc (.cells #[.nilIface] 39)) 25 (.slice none 0 0)
  have hB0 : Below w.heap.size w ((((w.alloc (.cells #[.string ⟨s.toArray⟩] 9)).alloc (.cells #[.slice none 0 0] 25)).alloc (.cells #[.nilIface] 39)).alloc (.cells #[.slice none 0 0] 25)) := by repeat (first | with_reducible assumption | with_reducible exact Below.refl _ _ | with_reducible apply Below.drew | (with_reducible refine Below.alloc ?_ (by first | omega | (simp only [zA, zS, zD, zN]; omega) | (dsimp only; omega) | (simp only [zA, zS, zD, zN]; dsimp only; omega)) _) | (with_reducible refine Below.setCell ?_ (by first | omega | (simp only [zA, zS, zD, zN]; omega) | (dsimp only; omega) | (simp only [zA, zS, zD, zN]; dsimp only; omega)) _) | (with_reducible apply below_drewN))
  have hz0 : ((((w.alloc (.cells #[.string ⟨s.toArray⟩] 9)).alloc (.cells #[.slice none 0 0] 25)).alloc (.cells #[.nilIface] 39)).alloc (.cells #[.slice none 0 0] 25)).heap.size = w.heap.size + 1 + 1 + 1 + 1 := by simp
  simp only [World.size_alloc] at A1 A2 A3
  generalize ((((w.alloc (.cells #[.string ⟨s.toArray⟩] 9)).alloc (.cells #[.slice none 0 0] 25)).alloc (.cells #[.nilIface] 39)).alloc (.cells #[.slice none 0 0] 25)) = W0 at *
  obtain ⟨S0, S1, S2, hbs, hzs⟩ := splitW_boxes W0 s
  have k : ∀ {b : Nat} {t : TypeId} {u : Value}, Boxed W0 b t u → Boxed (splitW W0 s) b t u := fun h => (hbs.block _ h.lt).trans h
  have A0 := k A0
  have A1 := k A1
  have A2 := k A2
  have A3 := k A3
  have hB1 := hB0.trans (hbs.mono hB0.size)
  rw [hz0] at S0 S1 S2 hzs
  clear k hbs hB0
  generalize splitW W0 s = W1 at *
  clear hz0
  have HI0 : ParI w.heap.size (w.heap.size + 1 + 1 + 1 + 1) s w [] W1 := ⟨⟨_, A3, World.ownsRow_nil _ _ _ _, trivial⟩, A0, A1, A2, ⟨_, S0⟩, hB1, by simp, by omega⟩
  refine range_split (N := w.heap.size + 1 + 1 + 1 + 1) (pieces := cutA [] s) rfl (by omega) (gf := 83) (lb := #[.pointer (some ⟨w.heap.size + 1 + 1 + 1 + 1 + 1, 0, none⟩), .pointer (some ⟨w.heap.size + 1 + 1 + 1 + 1, 0, none⟩), .pointer (some ⟨w.heap.size + 1 + 1 + 1 + 1 + 2, 0, none⟩)]) rfl trivial (enters_of Tryd.func83 (by kernel_rfl) rfl)
    (split_stops _ (by omega) _ s hs W1 S0 S1 S2) (by omega) rfl
    (ParI w.heap.size (w.heap.size + 1 + 1 + 1 + 1) s w) (fun c pre W => c = .ret ∧ ParX w.heap.size w pre W)
    (ParI.own _ _ _ _ _ (by omega) (Nat.le_refl _)) (fun c pre W W' row h hg hr => ⟨h.1, ParX.own _ _ _ (by omega) (Nat.le_refl _) pre W W' row h.2 hg hr⟩) (fun pre W v h => h.set (by omega) v) HI0
    (fun x => { tmps := #[.string ⟨s.toArray⟩, .pointer (some ⟨w.heap.size, 0, none⟩), .pointer (some ⟨w.heap.size + 1, 0, none⟩), .pointer (some ⟨w.heap.size + 1 + 1, 0, none⟩), .pointer (some ⟨w.heap.size + 1 + 1 + 1, 0, none⟩), .string ⟨x.toArray⟩, undef, undef, .string ⟨s.toArray⟩, .func (.func 83) #[] #[.pointer (some ⟨w.heap.size + 1 + 1 + 1 + 1 + 1, 0, none⟩), .pointer (some ⟨w.heap.size + 1 + 1 + 1 + 1, 0, none⟩), .pointer (some ⟨w.heap.size + 1 + 1 + 1 + 1 + 2, 0, none⟩)], .string ⟨x.toArray⟩, undef, undef, undef, undef, undef, undef, undef, undef, undef, undef, undef, undef, undef, undef, undef, undef, undef, undef, undef, undef, undef, undef, undef, undef, undef], defers := [] }) ?assign ?body ?done ?stop
  case assign =>
    intro l x W K hK
    gi_wp2
    exact hK
  case body =>
    rintro l pre x W hI hpx
    have hxl : x.length ≤ s.length := by
      have := cutA_mem s [] x (hpx.subset (by simp))
      simpa using this
    have hpl : pre.length ≤ s.length + 1 := by
      have h1 := hpx.length_le
      have := cutA_len s []
      simp at h1
      omega
    have HPX := Lib.hid hpx
    clear hpx
    clear HI0 A0 A1 A2 A3 S0 S1 S2 hB1
    have x0 := hI.s.cell
    have x1 := hI.r.cell
    have x2 := hI.e.cell
    have u1 := hI.r.frozen
    have u2 := hI.e.frozen
    gi_wp2_with fail
    refine ⟨trivial, (CallsIn.inRound l (callsIn_wide.2 (atoi_any ⟨x.toArray⟩ ?_ W (HE.out.ext hI.b)))).mono ?_⟩
    · show x.toArray.size ≤ _
      simp
      omega
    rintro e W3 ⟨⟨ev, rfl, hok, hno⟩, hb3⟩
    rw [show (⟨x.toArray⟩ : ByteArray).data.toList = x from rfl] at hok hno ⊢
    have hn64 : In64 (numR x) := tp_num64 x
    have KF : KeepsFrom W1.heap.size W W3 := ⟨hb3.size, fun k o _ hk _ => (hb3.block k (Array.getElem?_eq_some_iff.1 hk).1).trans hk⟩
    have hzW : w.heap.size + 1 + 1 + 1 + 1 + 3 ≤ W.heap.size := hI.z
    have KP : Kp3 (w.heap.size + 1 + 1 + 1 + 1) W W3 := fun b h1 h2 => hb3.block b (by omega)
    have hB3 : Below w.heap.size w W3 := hI.b.trans (hb3.mono hI.b.size)
    have R1 : Boxed W3 (w.heap.size + 1) 25 (.slice none 0 0) := (hb3.block _ hI.r.lt).trans hI.r
    have R2 : Boxed W3 (w.heap.size + 1 + 1) 39 .nilIface := (hb3.block _ hI.e.lt).trans hI.e
    clear x0 x1 x2 u1 u2
    cases hbo : numOk x with
    | false =>
      obtain ⟨t, Na, rfl⟩ := hno hbo
      have x1 := R1.cell
      have x2 := R2.cell
      have u1 := R1.frozen
      have u2 := R2.frozen
      gi_wp2_with fail
      refine ⟨KF.trans (((KeepsOthers.setCell _ _ _).trans (KeepsOthers.setCell _ _ _)).from _), rfl, ?_⟩
      have g1 := grownBy_setCell' W3 (w.heap.size + 1) (.slice none 0 0)
      have Q1 := R1.set (.slice none 0 0)
      have Q2 : Boxed (W3.setCell ⟨w.heap.size + 1, 0, none⟩ (.slice none 0 0)) (w.heap.size + 1 + 1) 39 .nilIface := R2.kept g1 (by simp)
      have P2 := Q2.set (.iface 27 (.int .i64 3))
      have P1 : Boxed ((W3.setCell ⟨w.heap.size + 1, 0, none⟩ (.slice none 0 0)).setCell ⟨w.heap.size + 1 + 1, 0, none⟩ (.iface 27 (.int .i64 3))) (w.heap.size + 1) 25 (.slice none 0 0) := Q1.kept (grownBy_setCell' _ (w.heap.size + 1 + 1) _) (by simp)
      exact ⟨P1, P2, (hB3.setCell (by dsimp only; omega) _).setCell (by dsimp only; omega) _, x, by simp, hbo⟩
    | true =>
      obtain rfl := hok hbo
      obtain ⟨v, hv0, hrow0, _⟩ := hI.o
      have hv : Boxed W3 (w.heap.size + 1 + 1 + 1) 25 v := (hb3.block _ hv0.lt).trans hv0
      have hrow := row_below hrow0 hb3
      have hc := hv.cell
      obtain ⟨i0, hi, hz0, hz1, hz2⟩ := info_parts info_int
      have hz3 := hb3.size
      gi_wp2_with (gi_at_builtin; refine wpListIn_append_own _ rfl _ _ 25 rfl (w.heap.size + 1 + 1 + 1 + 1 + 3) 3 i0 (.int .i64 0) 1 8 Tryd.underlying25 hi hz0 hz1 hz2 rfl (by decide) _ _ _ rfl (hrow.alloc _) ⟨W3.heap.size, 0, none⟩ 1 1 [.int .i64 (numR x)] rfl rfl (cell_one_new _ _ _) (by simp [Value.oneCell']) (by unfold maxLen; omega) (by omega) (by simp; omega) ?_; intro v' w1 hown' hgrow _; obtain ⟨g', cap', rfl⟩ := ownsRow_succ hown'; obtain ⟨hv1, hv2, hr2, hk2, hb2⟩ := hv.appended (by decide) (row_weak hrow (show w.heap.size ≤ _ by omega)) hB3.size (by omega) (row_weak hown' (show w.heap.size ≤ _ by omega)) hgrow; have hc1 := hv1.cell; have hf1 := hv1.frozen)
      have hlo := World.ownsRow.lt hrow
      have kk : ∀ {b : Nat} {t : TypeId} {u : Value}, Boxed W b t u → b < w.heap.size + 1 + 1 + 1 + 1 + 3 → b ≠ w.heap.size + 1 + 1 + 1 → Boxed (w1.setCell ⟨w.heap.size + 1 + 1 + 1, 0, none⟩ (.slice (some ⟨g', 0, none⟩) (pre.length + 1) cap')) b t u := fun {b t u} h hlt hne =>
        (((show Boxed W3 b t u from (hb3.block _ h.lt).trans h).alloc _).kept hgrow (fun e => by have := (hlo b e.symm).1; omega)).kept (grownBy_setCell' w1 _ _) (by simp; omega)
      obtain ⟨sx, hsx⟩ := hI.c
      have hgz := hgrow.size
      rw [World.size_alloc] at hgz
      refine ⟨KF.trans (hk2.from _), ?_, ⟨⟨_, hv2, ?_, trivial⟩, kk hI.s (by omega) (by omega), kk hI.r (by omega) (by omega), kk hI.e (by omega) (by omega), ⟨sx, kk hsx (by omega) (by omega)⟩, hB3.trans hb2, ?_, ?_⟩⟩
      · intro b h1 h2
        refine (Below.heap_setCell _ _ _ b (by dsimp only; omega)).trans ((hgrow.block b (by rw [World.size_alloc]; omega) (fun e => by have := (hlo b e.symm).1; omega)).trans ((Below.heap_alloc _ _ b (by omega)).trans (KP b h1 h2)))
      · have := hown'.kept (grownBy_setCell' w1 (w.heap.size + 1 + 1 + 1) (.slice (some ⟨g', 0, none⟩) (pre.length + 1) cap')) (.inr (hv1.not_row (by decide) hown').symm)
        simpa using this
      · intro y hy
        rcases List.mem_append.1 hy with hy | hy
        · exact hI.n y hy
        · rw [List.mem_singleton.1 hy]; exact hbo
      · have := (grownBy_setCell' w1 (w.heap.size + 1 + 1 + 1) (.slice (some ⟨g', 0, none⟩) (pre.length + 1) cap')).size
        omega
  case done =>
    rintro D W hD hI hK
    clear HI0 A0 A1 A2 A3 S0 S1 S2 hB1
    have x0 := hI.s.cell
    obtain ⟨v, hv, hrow, _⟩ := hI.o
    have hc := hv.cell
    obtain ⟨L, hL⟩ : ∃ L, L = (cutA [] s).map numR := ⟨_, rfl⟩
    have hLi : ∀ n ∈ L, In64 n := fun n hn => by
      rw [hL] at hn
      obtain ⟨x, _, rfl⟩ := List.mem_map.1 hn
      exact tp_num64 x
    have HO : OwnInts W (w.heap.size + 1 + 1 + 1 + 1 + 3) v L := by
      unfold OwnInts
      rw [hL, List.length_map, List.map_map]
      exact hrow
    have HIA := HO.at hLi
    obtain ⟨vad, vcap, hvs, _⟩ := HIA.form
    subst hvs
    have hB := hI.b
    have hlen : L.length ≤ 1000000000 := by rw [hL, List.length_map]; have := cutA_len s []; omega
    have hrr0 : ∀ b, b < W.heap.size → True := fun _ _ => trivial
    have HI2 := Lib.hid hI
    have HK := Lib.hid hK
    have HLS : Hid (L = (cutA [] s).map numR ∧ ∀ x ∈ cutA [] s, numOk x = true) := ⟨hL, hI.n⟩
    have HIA2 := Lib.hid HIA
    have HO2 := Lib.hid HO
    have HV2 := Lib.hid hv
    have HLI := Lib.hid hLi
    have HDL : Hid (w.heap.size + 1 + 1 < D) := by show _ < _; omega
    have CK := Lib.hid (fun W' (h : Below W.heap.size W W') => tcheck_any (.slice vad L.length vcap) L W' (HIA2.out.ext h))
    have CT := Lib.hid (fun W' (h : Below W.heap.size W W') => ttext_any (.slice vad L.length vcap) L W' (HP.out.ext (hB.trans (h.mono hB.size))) (HIA2.out.ext h) hlen)
    have HS : Hid (∀ W', Below W.drew.heap.size W.drew W' → (fun w' => w'.cell? ⟨w.heap.size + 1 + 1 + 1, 0, none⟩ = some (.slice vad L.length vcap) ∧ w'.cell? ⟨w.heap.size, 0, none⟩ = some (.string ⟨s.toArray⟩)) W') := fun W' h => ⟨((show Blk W.drew _ _ _ from hv).ext h).cell 0, ((show Blk W.drew _ _ _ from hI.s).ext h).cell 0⟩
    have HBd : Hid (Below W.heap.size W W.drew) := Below.drew (Below.refl _ _)
    clear hI hrow hL HO HIA hv hK hrr0 x0 hc hB
    gi_wp2_with fail
    refine wpIn_wide.2 (wp_nrm ?_)
    refine region_mov (S := fun w' => w'.cell? ⟨w.heap.size + 1 + 1 + 1, 0, none⟩ = some (.slice vad L.length vcap) ∧ w'.cell? ⟨w.heap.size, 0, none⟩ = some (.string ⟨s.toArray⟩)) (n := 8) (ms := [(true, 0), (false, 1), (false, 2), (false, 3), (true, 4), (true, 6), (false, 5), (false, 7), (false, 8)]) (hm := by kernel_rfl) (hB := by kernel_rfl) (hQ := fun c a d v w h => h) ?_
    iterate 1
      rw [mov_take]
      simp only [List.getElem?_toArray, List.getElem?_cons_succ, List.getElem?_cons_zero]
      refine ⟨?_, .inl ⟨by rfl, ?_⟩, (HS.out _ (Below.refl _ _)), ?_⟩
      rotate_left
      · rintro w' ⟨s0, s1⟩
        go_simp
        rfl
      simp only [Act.put, List.setIfInBounds_toArray, List.set_cons_zero, List.set_cons_succ]
    generalize W.drew = Wd at *
    rw [mov_step]
    simp only [List.getElem?_toArray, List.getElem?_cons_succ, List.getElem?_cons_zero]
    go_wp2_with fail
    refine (CK.out _ HBd.out).mono ?_
    rintro e W3 ⟨rfl, hb3⟩
    have HB3 := Lib.hid hb3
    clear hb3 CK
    cases hbad : tapeBad L with
    | true =>
      rw [tapeErr_bad hbad]
      have HBAD := Lib.hid hbad
      clear hbad
      go_wp2_with fail
      refine And.intro (fun _ => HS.out _ HB3.out) ?_
      rw [mov_step]
      simp only [List.getElem?_toArray, List.getElem?_cons_succ, List.getElem?_cons_zero]
      go_wp2_with fail
      refine And.intro (fun _ => HS.out _ HB3.out) ?_
      rw [mov_step]
      simp only [List.getElem?_toArray, List.getElem?_cons_succ, List.getElem?_cons_zero]
      go_wp2_with fail
      refine And.intro (fun _ => HS.out _ HB3.out) ?_
      iterate 2
        rw [mov_take]
        simp only [List.getElem?_toArray, List.getElem?_cons_succ, List.getElem?_cons_zero]
        refine ⟨undef, .inr ⟨by rfl, rfl⟩, HS.out _ HB3.out, ?_⟩
        simp only [Act.put, List.setIfInBounds_toArray, List.set_cons_zero, List.set_cons_succ]
      rw [mov_step]
      simp only [List.getElem?_toArray, List.getElem?_cons_succ, List.getElem?_cons_zero]
      go_wp2_with fail
      refine And.intro (fun _ => HS.out _ HB3.out) ?_
      rw [mov_step]
      simp only [List.getElem?_toArray, List.getElem?_cons_succ, List.getElem?_cons_zero]
      go_wp2_with fail
      refine And.intro (fun _ => HS.out _ HB3.out) ?_
      rw [mov_step]
      simp only [List.getElem?_toArray, List.getElem?_cons_succ, List.getElem?_cons_zero]
      go_wp2_with fail
      refine And.intro (fun h => absurd h (by omega)) ?_
      rw [wpMov]
      have HNO : Hid (∀ m, ¬ IsTape s m) := fun m hm => by
        have h1 := (tape_num HNE.out hm).2
        rw [← HLS.out.1] at h1
        have h2 := HBAD.out
        rw [h1, tapeBad_false.2 hm.1] at h2
        cases h2
      simp only [NrmQ]
      have HT := Lib.hid (HBd.out.trans (HB3.out.mono HBd.out.size))
      have q0 : Boxed W3 w.heap.size 9 (.string ⟨s.toArray⟩) := (HT.out.block _ HI2.out.s.lt).trans HI2.out.s
      have q1 : Boxed W3 (w.heap.size + 1) 25 (.slice none 0 0) := (HT.out.block _ HI2.out.r.lt).trans HI2.out.r
      have q2 : Boxed W3 (w.heap.size + 1 + 1) 39 .nilIface := (HT.out.block _ HI2.out.e.lt).trans HI2.out.e
      have qd : W3.heap[D]? = some (.deferred (some [])) := (HT.out.block D (Array.getElem?_eq_some_iff.1 HK.out).1).trans HK.out
      have HBW : Hid (Below w.heap.size w W3) := HI2.out.b.trans (HT.out.mono HI2.out.b.size)
      have x1 := q1.cell
      have x2 := q2.cell
      have u1 := q1.frozen
      have u2 := q2.frozen
      clear hzs hD
      gi_wp2_with fail
      have g1 := grownBy_setCell' W3 (w.heap.size + 1) (.slice none 0 0)
      have g2 := grownBy_setCell' (W3.setCell ⟨w.heap.size + 1, 0, none⟩ (.slice none 0 0)) (w.heap.size + 1 + 1) (.iface 27 (.int .i64 3))
      have hdl : w.heap.size + 1 + 1 < D := HDL.out
      have t1 : Boxed _ (w.heap.size + 1) 25 (.slice none 0 0) := (q1.set (.slice none 0 0)).kept g2 (by simp)
      have t2 : Boxed _ (w.heap.size + 1 + 1) 39 (.iface 27 (.int .i64 3)) := (q2.kept g1 (by simp)).set (.iface 27 (.int .i64 3))
      have td : ((W3.setCell ⟨w.heap.size + 1, 0, none⟩ (.slice none 0 0)).setCell ⟨w.heap.size + 1 + 1, 0, none⟩ (.iface 27 (.int .i64 3))).heap[D]? = some (.deferred (some [])) := (Below.heap_setCell _ _ _ D (by dsimp only; omega)).trans ((Below.heap_setCell _ _ _ D (by dsimp only; omega)).trans qd)
      have hBZ : Below w.heap.size w ((W3.setCell ⟨w.heap.size + 1, 0, none⟩ (.slice none 0 0)).setCell ⟨w.heap.size + 1 + 1, 0, none⟩ (.iface 27 (.int .i64 3))) := (HBW.out.setCell (by dsimp only; omega) _).setCell (by dsimp only; omega) _
      generalize (W3.setCell ⟨w.heap.size + 1, 0, none⟩ (.slice none 0 0)).setCell ⟨w.heap.size + 1 + 1, 0, none⟩ (.iface 27 (.int .i64 3)) = WZ at *
      refine ⟨by simp, .inl ⟨_, _, rfl, run_takeDeferred td, ?_⟩⟩
      have hg := grownBy_putObj' WZ D (.deferred none)
      have hrr : ∀ r, some D = some r → ∃ o : Obj, WZ.heap[r]? = some o ∧ o.isCells = false := fun r e => by cases e; exact ⟨_, td, rfl⟩
      have d0 := cell_kept t1.cell hg hrr
      have d1 := cell_kept t2.cell hg hrr
      have hBY : Below w.heap.size w (WZ.putObj D (.deferred none)) := hBZ.grown hg hBZ.size (fun k e => by cases e; omega)
      refine ⟨.tuple #[.slice none 0 0, .iface 27 (.int .i64 3)], by simp [results, Tryd.results17, go_sem, d0, d1], ?_⟩
      exact ⟨.inr ⟨by rw [errV_ne (by decide)], HNO.out⟩, hBY⟩
    | false =>
      rw [tapeErr_ok hbad]
      have HOK := Lib.hid hbad
      clear hbad
      go_wp2_with fail
      refine And.intro (fun _ => HS.out _ HB3.out) ?_
      rw [mov_step]
      simp only [List.getElem?_toArray, List.getElem?_cons_succ, List.getElem?_cons_zero]
      go_wp2_with fail
      refine And.intro (fun _ => HS.out _ HB3.out) ?_
      rw [mov_step]
      simp only [List.getElem?_toArray, List.getElem?_cons_succ, List.getElem?_cons_zero]
      go_wp2_with fail
      refine And.intro (fun _ => HS.out _ HB3.out) ?_
      iterate 2
        rw [mov_take]
        simp only [List.getElem?_toArray, List.getElem?_cons_succ, List.getElem?_cons_zero]
        refine ⟨?_, .inl ⟨by rfl, ?_⟩, (HS.out _ HB3.out), ?_⟩
        rotate_left
        · rintro w' ⟨s0, s1⟩
          go_simp
          rfl
        simp only [Act.put, List.setIfInBounds_toArray, List.set_cons_zero, List.set_cons_succ]
      rw [mov_step]
      simp only [List.getElem?_toArray, List.getElem?_cons_succ, List.getElem?_cons_zero]
      go_wp2_with fail
      refine (CT.out _ (HBd.out.trans (HB3.out.mono HBd.out.size))).mono ?_
      rintro e W4 ⟨rfl, hb4⟩
      have HB4 : Hid (Below Wd.heap.size Wd W4) := HB3.out.trans (hb4.mono HB3.out.size)
      clear hb4
      go_wp2_with fail
      refine And.intro (fun _ => HS.out _ HB4.out) ?_
      rw [mov_step]
      simp only [List.getElem?_toArray, List.getElem?_cons_succ, List.getElem?_cons_zero]
      go_wp2_with fail
      refine And.intro (fun _ => HS.out _ HB4.out) ?_
      rw [mov_step]
      simp only [List.getElem?_toArray, List.getElem?_cons_succ, List.getElem?_cons_zero]
      go_wp2_with fail
      refine And.intro (fun h => absurd h (by omega)) ?_
      rw [wpMov]
      by_cases htx : tText L = s
      · have HTP : Hid (IsTape s L) := ⟨tapeBad_false.1 HOK.out, htx⟩
        have et : (!tText L == s) = false := by simp [htx]
        rw [et]
        clear htx et
        simp only [NrmQ]
        have HT := Lib.hid (HBd.out.trans (HB4.out.mono HBd.out.size))
        have q0 : Boxed W4 w.heap.size 9 (.string ⟨s.toArray⟩) := (HT.out.block _ HI2.out.s.lt).trans HI2.out.s
        have q1 : Boxed W4 (w.heap.size + 1) 25 (.slice none 0 0) := (HT.out.block _ HI2.out.r.lt).trans HI2.out.r
        have q2 : Boxed W4 (w.heap.size + 1 + 1) 39 .nilIface := (HT.out.block _ HI2.out.e.lt).trans HI2.out.e
        have qd : W4.heap[D]? = some (.deferred (some [])) := (HT.out.block D (Array.getElem?_eq_some_iff.1 HK.out).1).trans HK.out
        have HBW : Hid (Below w.heap.size w W4) := HI2.out.b.trans (HT.out.mono HI2.out.b.size)
        have HOW : Hid (OwnInts W4 (w.heap.size + 1 + 1 + 1 + 1 + 3) (.slice vad L.length vcap) L) := HO2.out.kept HT.out
        have q3 : Boxed W4 (w.heap.size + 1 + 1 + 1) 25 (.slice vad L.length vcap) := (HT.out.block _ HV2.out.lt).trans HV2.out
        have x1 := q1.cell
        have x2 := q2.cell
        have x3 := q3.cell
        have u1 := q1.frozen
        have u2 := q2.frozen
        clear hzs hD
        gi_wp2_with fail
        have g1 := grownBy_setCell' W4 (w.heap.size + 1) (.slice vad L.length vcap)
        have g2 := grownBy_setCell' (W4.setCell ⟨w.heap.size + 1, 0, none⟩ (.slice vad L.length vcap)) (w.heap.size + 1 + 1) .nilIface
        have hdl : w.heap.size + 1 + 1 < D := HDL.out
        have hlo := World.ownsRow.lt HOW.out
        have t1 : Boxed _ (w.heap.size + 1) 25 (.slice vad L.length vcap) := (q1.set (.slice vad L.length vcap)).kept g2 (by simp)
        have t2 : Boxed _ (w.heap.size + 1 + 1) 39 .nilIface := (q2.kept g1 (by simp)).set .nilIface
        have t3 := World.ownsRow.kept (World.ownsRow.kept HOW.out g1 (.inr (fun e => by have := (hlo _ e).1; omega))) g2 (.inr (fun e => by have := (hlo _ e).1; omega))
        have td : ((W4.setCell ⟨w.heap.size + 1, 0, none⟩ (.slice vad L.length vcap)).setCell ⟨w.heap.size + 1 + 1, 0, none⟩ .nilIface).heap[D]? = some (.deferred (some [])) := (Below.heap_setCell _ _ _ D (by dsimp only; omega)).trans ((Below.heap_setCell _ _ _ D (by dsimp only; omega)).trans qd)
        have hBZ : Below w.heap.size w ((W4.setCell ⟨w.heap.size + 1, 0, none⟩ (.slice vad L.length vcap)).setCell ⟨w.heap.size + 1 + 1, 0, none⟩ .nilIface) := (HBW.out.setCell (by dsimp only; omega) _).setCell (by dsimp only; omega) _
        generalize (W4.setCell ⟨w.heap.size + 1, 0, none⟩ (.slice vad L.length vcap)).setCell ⟨w.heap.size + 1 + 1, 0, none⟩ .nilIface = WZ at *
        refine ⟨by simp, .inl ⟨_, _, rfl, run_takeDeferred td, ?_⟩⟩
        have hg := grownBy_putObj' WZ D (.deferred none)
        have hrr : ∀ r, some D = some r → ∃ o : Obj, WZ.heap[r]? = some o ∧ o.isCells = false := fun r e => by cases e; exact ⟨_, td, rfl⟩
        have d0 := cell_kept t1.cell hg hrr
        have d1 := cell_kept t2.cell hg hrr
        have hBY : Below w.heap.size w (WZ.putObj D (.deferred none)) := hBZ.grown hg hBZ.size (fun k e => by cases e; omega)
        have t4 := ownsRow_putObj t3 (.deferred none) td rfl
        refine ⟨.tuple #[.slice vad L.length vcap, .nilIface], by simp [results, Tryd.results17, go_sem, d0, d1], ?_⟩
        exact ⟨.inl ⟨_, L, rfl, OwnInts.at t4 HLI.out, HTP.out⟩, hBY⟩
      · have HNO : Hid (∀ m, ¬ IsTape s m) := fun m hm => by
          have h1 := (tape_num HNE.out hm).2
          rw [← HLS.out.1] at h1
          exact htx (by rw [h1]; exact hm.2)
        have et : (!tText L == s) = true := by simp [htx]
        rw [et]
        clear htx et
        simp only [NrmQ]
        have HT := Lib.hid (HBd.out.trans (HB4.out.mono HBd.out.size))
        have q0 : Boxed W4 w.heap.size 9 (.string ⟨s.toArray⟩) := (HT.out.block _ HI2.out.s.lt).trans HI2.out.s
        have q1 : Boxed W4 (w.heap.size + 1) 25 (.slice none 0 0) := (HT.out.block _ HI2.out.r.lt).trans HI2.out.r
        have q2 : Boxed W4 (w.heap.size + 1 + 1) 39 .nilIface := (HT.out.block _ HI2.out.e.lt).trans HI2.out.e
        have qd : W4.heap[D]? = some (.deferred (some [])) := (HT.out.block D (Array.getElem?_eq_some_iff.1 HK.out).1).trans HK.out
        have HBW : Hid (Below w.heap.size w W4) := HI2.out.b.trans (HT.out.mono HI2.out.b.size)
        have x1 := q1.cell
        have x2 := q2.cell
        have u1 := q1.frozen
        have u2 := q2.frozen
        clear hzs hD
        gi_wp2_with fail
        have g1 := grownBy_setCell' W4 (w.heap.size + 1) (.slice none 0 0)
        have g2 := grownBy_setCell' (W4.setCell ⟨w.heap.size + 1, 0, none⟩ (.slice none 0 0)) (w.heap.size + 1 + 1) (.iface 27 (.int .i64 3))
        have hdl : w.heap.size + 1 + 1 < D := HDL.out
        have t1 : Boxed _ (w.heap.size + 1) 25 (.slice none 0 0) := (q1.set (.slice none 0 0)).kept g2 (by simp)
        have t2 : Boxed _ (w.heap.size + 1 + 1) 39 (.iface 27 (.int .i64 3)) := (q2.kept g1 (by simp)).set (.iface 27 (.int .i64 3))
        have td : ((W4.setCell ⟨w.heap.size + 1, 0, none⟩ (.slice none 0 0)).setCell ⟨w.heap.size + 1 + 1, 0, none⟩ (.iface 27 (.int .i64 3))).heap[D]? = some (.deferred (some [])) := (Below.heap_setCell _ _ _ D (by dsimp only; omega)).trans ((Below.heap_setCell _ _ _ D (by dsimp only; omega)).trans qd)
        have hBZ : Below w.heap.size w ((W4.setCell ⟨w.heap.size + 1, 0, none⟩ (.slice none 0 0)).setCell ⟨w.heap.size + 1 + 1, 0, none⟩ (.iface 27 (.int .i64 3))) := (HBW.out.setCell (by dsimp only; omega) _).setCell (by dsimp only; omega) _
        generalize (W4.setCell ⟨w.heap.size + 1, 0, none⟩ (.slice none 0 0)).setCell ⟨w.heap.size + 1 + 1, 0, none⟩ (.iface 27 (.int .i64 3)) = WZ at *
        refine ⟨by simp, .inl ⟨_, _, rfl, run_takeDeferred td, ?_⟩⟩
        have hg := grownBy_putObj' WZ D (.deferred none)
        have hrr : ∀ r, some D = some r → ∃ o : Obj, WZ.heap[r]? = some o ∧ o.isCells = false := fun r e => by cases e; exact ⟨_, td, rfl⟩
        have d0 := cell_kept t1.cell hg hrr
        have d1 := cell_kept t2.cell hg hrr
        have hBY : Below w.heap.size w (WZ.putObj D (.deferred none)) := hBZ.grown hg hBZ.size (fun k e => by cases e; omega)
        refine ⟨.tuple #[.slice none 0 0, .iface 27 (.int .i64 3)], by simp [results, Tryd.results17, go_sem, d0, d1], ?_⟩
        exact ⟨.inr ⟨by rw [errV_ne (by decide)], HNO.out⟩, hBY⟩
  case stop =>
    rintro D c pre W hD hpre ⟨rfl, hX⟩ hK
    clear HI0 A0 A1 A2 A3 S0 S1 S2 hB1
    gi_wp2
    refine ⟨by simp, .inl ⟨_, _, rfl, run_takeDeferred hK, ?_⟩⟩
    have hg := grownBy_putObj' W D (.deferred none)
    have hrr : ∀ r, some D = some r → ∃ o : Obj, W.heap[r]? = some o ∧ o.isCells = false := fun r e => by cases e; exact ⟨_, hK, rfl⟩
    have d0 := cell_kept hX.r.cell hg hrr
    have d1 := cell_kept hX.e.cell hg hrr
    have hBZ : Below w.heap.size w (W.putObj D (.deferred none)) := hX.b.grown hg hX.b.size (fun k e => by cases e; omega)
    refine ⟨.tuple #[.slice none 0 0, .iface 27 (.int .i64 3)], by simp [results, Tryd.results17, go_sem, d0, d1], ?_⟩
    refine ⟨.inr ⟨by rw [errV_ne (by decide)], fun m hm => ?_⟩, hBZ⟩
    obtain ⟨x, hx, hf⟩ := hX.n
    rw [(tape_num HNE.out hm).1 x (hpre.subset hx)] at hf
    cases hf
end Go.Proofs.YtlhdiekibkdiaaaDoor
