/- How generators and values lie in memory. A slice of the call's own that is appended to: one law for sources that are nil or not; lists of numbers. The walks through a generator's check. The walk through a generator's count. -/
import Derived.Test.YtocngjpjheockaaBase
import Derived.Test.YtocngjpjheockaaPA
import Derived.Test.YtocngjpjheockaaProg
import Derived.Laws.AppendOwnNone
namespace Go.Proofs.Ytocngjpjheockaa
set_option maxRecDepth 100000
open Go.RowKit
set_option linter.unusedSimpArgs false
set_option linter.unusedVariables false
/-- A generator: four cells, the last one a slice of generators. -/
inductive GenAt (w : World) : Value → GT → Prop
  | mk {k a b : Int} {s : List GT} {ad : Option Addr} {cap : Nat} (hk : In64 k) (ha : In64 a) (hb : In64 b) (hl : s.length ≤ cap) (hm : cap ≤ 9223372036854775807) (hn : ad = none → cap = 0) (vs : Nat → Value)
      (cells : 0 < s.length → ∃ bl off, ad = some ⟨bl, off, none⟩ ∧ bl < w.heap.size ∧ ∀ i, i < s.length → ∃ c0 c1 c2 c3, vs i = .agg #[c0, c1, c2, c3] ∧ w.cell? ⟨bl, off + i * 4, none⟩ = some c0 ∧
        w.cell? ⟨bl, off + i * 4 + 1, none⟩ = some c1 ∧ w.cell? ⟨bl, off + i * 4 + 2, none⟩ = some c2 ∧ w.cell? ⟨bl, off + i * 4 + 3, none⟩ = some c3)
      (kids : ∀ i (h : i < s.length), GenAt w (vs i) s[i]) : GenAt w (.agg #[.int .i64 k, .int .i64 a, .int .i64 b, .slice ad s.length cap]) (.mk k a b s)
theorem GenAt.ext {w w' : World} {v : Value} {g : GT} (h : GenAt w v g) (hb : Below w.heap.size w w') : GenAt w' v g := by
  induction h with
  | mk hk ha hb' hl hm hn vs cells kids ih =>
    refine .mk hk ha hb' hl hm hn vs (fun hp => ?_) (fun i hi => ih i hi)
    obtain ⟨bl, off, e, hlt, hc⟩ := cells hp
    refine ⟨bl, off, e, Nat.lt_of_lt_of_le hlt hb.size, fun i hi => ?_⟩
    obtain ⟨c0, c1, c2, c3, hv, h0, h1, h2, h3⟩ := hc i hi
    exact ⟨c0, c1, c2, c3, hv, (hb.cell (p := ⟨bl, _, none⟩) hlt).trans h0, (hb.cell (p := ⟨bl, _, none⟩) hlt).trans h1, (hb.cell (p := ⟨bl, _, none⟩) hlt).trans h2, (hb.cell (p := ⟨bl, _, none⟩) hlt).trans h3⟩
/-- A slice of generators. -/
structure GensAt (w : World) (ad : Option Addr) (s : List GT) : Prop where
  at' : 0 < s.length → ∃ bl off, ad = some ⟨bl, off, none⟩ ∧ bl < w.heap.size ∧ ∀ i (h : i < s.length), ∃ k a b t ad' cap, w.cell? ⟨bl, off + i * 4, none⟩ = some (.int .i64 k) ∧
        w.cell? ⟨bl, off + i * 4 + 1, none⟩ = some (.int .i64 a) ∧ w.cell? ⟨bl, off + i * 4 + 2, none⟩ = some (.int .i64 b) ∧ w.cell? ⟨bl, off + i * 4 + 3, none⟩ = some (.slice ad' t cap) ∧
        GenAt w (.agg #[.int .i64 k, .int .i64 a, .int .i64 b, .slice ad' t cap]) s[i]
theorem GenAt.shape {w : World} {v : Value} {g : GT} (h : GenAt w v g) : ∃ k a b t ad cap, v = .agg #[.int .i64 k, .int .i64 a, .int .i64 b, .slice ad t cap] := by
  cases h; exact ⟨_, _, _, _, _, _, rfl⟩
theorem GenAt.form {w : World} {v : Value} {g : GT} (h : GenAt w v g) : ∃ k a b s ad cap, g = .mk k a b s ∧ v = .agg #[.int .i64 k, .int .i64 a, .int .i64 b, .slice ad s.length cap] ∧ In64 k ∧ In64 a ∧ In64 b ∧ s.length ≤ cap ∧ cap ≤ 9223372036854775807 ∧ GensAt w ad s := by
  cases h with
  | mk hk ha hb hl hm hn vs cells kids =>
    refine ⟨_, _, _, _, _, _, rfl, rfl, hk, ha, hb, hl, hm, ⟨fun hp => ?_⟩⟩
    obtain ⟨bl, off, e, hlt, hc⟩ := cells hp
    refine ⟨bl, off, e, hlt, fun i hi => ?_⟩
    obtain ⟨c0, c1, c2, c3, hv, h0, h1, h2, h3⟩ := hc i hi
    obtain ⟨k', a', b', t, ad', cap', he⟩ := (kids i hi).shape
    have hk := kids i hi
    rw [hv] at he
    rw [hv] at hk
    simp only [Value.agg.injEq] at he
    have e0 := congrArg (fun z : Array Value => z[0]?) he
    have e1 := congrArg (fun z : Array Value => z[1]?) he
    have e2 := congrArg (fun z : Array Value => z[2]?) he
    have e3 := congrArg (fun z : Array Value => z[3]?) he
    simp at e0 e1 e2 e3
    subst e0 e1 e2 e3
    exact ⟨_, _, _, _, _, _, h0, h1, h2, h3, hk⟩
/-- A nil slice has no capacity. -/
theorem GenAt.nil0 {w : World} {k a b : Int} {n cap : Nat} {ad : Option Addr} {g : GT} (h : GenAt w (.agg #[.int .i64 k, .int .i64 a, .int .i64 b, .slice ad n cap]) g) : ad = none → cap = 0 := by
  generalize hv : Value.agg #[.int .i64 k, .int .i64 a, .int .i64 b, .slice ad n cap] = v at h
  cases h with
  | mk hk ha hb hl hm hn vs cells kids =>
    simp only [Value.agg.injEq] at hv
    have e3 := congrArg (fun z : Array Value => z[3]?) hv
    simp at e3
    obtain ⟨rfl, _, rfl⟩ := e3
    exact hn
theorem GensAt.ext {w w' : World} {ad : Option Addr} {s : List GT} (h : GensAt w ad s) (hb : Below w.heap.size w w') : GensAt w' ad s := by
  refine ⟨fun hp => ?_⟩
  obtain ⟨bl, off, e, hlt, hc⟩ := h.at' hp
  refine ⟨bl, off, e, Nat.lt_of_lt_of_le hlt hb.size, fun i hi => ?_⟩
  obtain ⟨k, a, b, t, ad', cap, h0, h1, h2, h3, hg⟩ := hc i hi
  exact ⟨k, a, b, t, ad', cap, (hb.cell (p := ⟨bl, _, none⟩) hlt).trans h0, (hb.cell (p := ⟨bl, _, none⟩) hlt).trans h1, (hb.cell (p := ⟨bl, _, none⟩) hlt).trans h2, (hb.cell (p := ⟨bl, _, none⟩) hlt).trans h3, hg.ext hb⟩
theorem GenAt.make {w : World} {k a b : Int} {s : List GT} {ad : Option Addr} {cap : Nat} (hk : In64 k) (ha : In64 a) (hb : In64 b) (hl : s.length ≤ cap) (hm : cap ≤ 9223372036854775807) (hn : ad = none → cap = 0) (h : GensAt w ad s) :
    GenAt w (.agg #[.int .i64 k, .int .i64 a, .int .i64 b, .slice ad s.length cap]) (.mk k a b s) := by
  by_cases hp : 0 < s.length
  · obtain ⟨bl, off, e, hlt, hc⟩ := h.at' hp
    have hch : ∀ i : Nat, ∃ v : Value, ∀ hi : i < s.length, (∃ c0 c1 c2 c3, v = .agg #[c0, c1, c2, c3] ∧ w.cell? ⟨bl, off + i * 4, none⟩ = some c0 ∧
        w.cell? ⟨bl, off + i * 4 + 1, none⟩ = some c1 ∧ w.cell? ⟨bl, off + i * 4 + 2, none⟩ = some c2 ∧ w.cell? ⟨bl, off + i * 4 + 3, none⟩ = some c3) ∧ GenAt w v s[i] := by
      intro i
      by_cases hi : i < s.length
      · obtain ⟨k, a, b, t, ad', cap, h0, h1, h2, h3, hg⟩ := hc i hi
        exact ⟨_, fun _ => ⟨⟨_, _, _, _, rfl, h0, h1, h2, h3⟩, hg⟩⟩
      · exact ⟨.nilIface, fun h => absurd h hi⟩
    refine .mk hk ha hb hl hm hn (fun i => (hch i).choose) (fun _ => ⟨bl, off, e, hlt, fun i hi => ((hch i).choose_spec hi).1⟩) (fun i hi => ((hch i).choose_spec hi).2)
  · exact .mk hk ha hb hl hm hn (fun _ => .nilIface) (fun h => absurd h hp) (fun i hi => absurd (Nat.lt_of_le_of_lt (Nat.zero_le _) hi) hp)
end Go.Proofs.Ytocngjpjheockaa
namespace Go.Proofs.Ytocngjpjheockaa
set_option maxRecDepth 100000
open Go.RowKit
set_option linter.unusedSimpArgs false
set_option linter.unusedVariables false
/-- The source of an append reads as these cells. -/
def SrcAt (w : World) (src : Value) (m : Nat) (news : List Value) : Prop :=
  (src = .slice none 0 0 ∧ m = 0 ∧ news = []) ∨ ∃ ad c, src = .slice (some ad) m c ∧ ∀ j u, news[j]? = some u → w.cell? (ad.add j) = some u
theorem wpl_append {P : Program} {w : World} {ops : Array Oper} {rest : List Oper} {o : Oper} {a : Act} {Q : Exit → Act → World → Prop} (hgd : o.guard = none) (s x : Operand) (t : TypeId)
    (ho : o.op = .call { callee := .builtin .append, args := #[s, x], argTypes := #[t, t] })
    (base : Nat) (e : TypeId) {z : Value} {size bytes : Nat} (ht : P.underlying t = some (.slice e)) (hinfo : (P.info? e).map (fun i => (i.zero, i.size, i.bytes)) = some (some z, size, bytes)) (hzs : z.cells.size = size) (hsz : 0 < size)
    {v : Value} {n : Nat} {xs : List Value} (hs : a.eval s = v) (hown : w.ownsRow base e size v n xs)
    {src : Value} {m : Nat} {news : List Value} (hx : a.eval x = src) (hsrc : SrcAt w src m news) (hl : news.length = m * size) (h1 : ∀ u ∈ news, u.oneCell' = true)
    (h63 : n + m ≤ maxLen) (hbytes : (n + m) * bytes ≤ 140737488355328) (hbase : base ≤ w.heap.size)
    (h : ∀ v' w', w'.ownsRow base e size v' (n + m) (xs ++ news) → w.grownBy w' v.ownBlock → (v' = .slice none 0 0 ↔ v = .slice none 0 0 ∧ m = 0) → wpList P ops Q rest (a.put o.dst v') w') : wpList P ops Q (o :: rest) a w := by
  obtain ⟨i, hi, hz0, hz1, hz2⟩ := info_parts hinfo
  rcases hsrc with ⟨rfl, rfl, rfl⟩ | ⟨ad, c, rfl, hnews⟩
  · refine wpList_append_own_none hgd s x t ho base e i size ht hi v n xs hs hown hx ?_
    refine h v w (by simpa using hown) ⟨rfl, rfl, rfl, Nat.le_refl _, fun _ _ _ => rfl⟩ (by simp)
  · exact wpList_append_own w hgd s x t ho base e i z size bytes ht hi hz0 hz1 hz2 hzs hsz v n xs hs hown ad m c news hx hl hnews h1 h63 hbytes hbase h

/-! ### lists of numbers -/
def OwnInts (w : World) (base : Nat) (v : Value) (xs : List Int) : Prop := w.ownsRow base 3 1 v xs.length (xs.map (Value.int .i64))
theorem info_int : (Try.prog.info? 3).map (fun i => (i.zero, i.size, i.bytes)) = some (some (.int .i64 0), 1, 8) := by kernel_rfl
theorem IntsAt.src {w : World} {v : Value} {l : List Int} (h : IntsAt w v l) : SrcAt w v l.length (l.map (Value.int .i64)) := by
  rcases h.2 with ⟨rfl, rfl⟩ | ⟨a, cap, rfl, _, _, hc⟩
  · exact .inl ⟨rfl, rfl, rfl⟩
  · refine .inr ⟨a, cap, rfl, fun j u hu => ?_⟩
    rw [List.getElem?_map] at hu
    cases hj : l[j]? with
    | none => rw [hj] at hu; simp at hu
    | some y =>
      rw [hj] at hu
      simp at hu
      have hlt : j < l.length := (List.getElem?_eq_some_iff.1 hj).1
      rw [hc j hlt, ← hu]
      simp [List.getD_eq_getElem?_getD, hj]
theorem OwnInts.at {w : World} {base : Nat} {v : Value} {xs : List Int} (h : OwnInts w base v xs) (hi : ∀ n ∈ xs, In64 n) : IntsAt w v xs := by
  refine ⟨hi, ?_⟩
  rcases h.2 with ⟨rfl, h0⟩ | ⟨g, cap, cur, rfl, hg, hb, hn, hm, hcs, htake⟩
  · exact .inl ⟨rfl, List.length_eq_zero_iff.1 h0⟩
  · refine .inr ⟨_, cap, rfl, hn, hm, fun i hi => ?_⟩
    have e : (⟨g, 0, none⟩ : Addr).add i = ⟨g, i, none⟩ := by unfold Addr.add; split <;> simp_all
    rw [e, cell_of_row w g i cur 3 (0, 0) hb]
    have hq : (xs.map (Value.int .i64))[i]? = some (.int .i64 (xs.getD i 0)) := by
      rw [List.getElem?_map]; simp [List.getD_eq_getElem?_getD, hi]
    rw [← htake, List.getElem?_take, if_pos (by omega)] at hq
    simpa using hq
theorem append_ints {w : World} {ops : Array Oper} {rest : List Oper} {o : Oper} {a : Act} {Q : Exit → Act → World → Prop} (hgd : o.guard = none) (s x : Operand)
    (ho : o.op = .call { callee := .builtin .append, args := #[s, x], argTypes := #[38, 38] })
    {base : Nat} {v : Value} {xs : List Int} (hs : a.eval s = v) (hown : OwnInts w base v xs)
    {src : Value} {l : List Int} (hx : a.eval x = src) (hsrc : IntsAt w src l) (hbytes : (xs.length + l.length) * 8 ≤ 140737488355328) (hbase : base ≤ w.heap.size)
    (h : ∀ v' w', OwnInts w' base v' (xs ++ l) → w.grownBy w' v.ownBlock → (v' = .slice none 0 0 ↔ v = .slice none 0 0 ∧ l.length = 0) → wpList Try.prog ops Q rest (a.put o.dst v') w') : wpList Try.prog ops Q (o :: rest) a w := by
  refine wpl_append hgd s x 38 ho base 3 Try.underlying38 info_int rfl (by decide) hs hown hx hsrc.src (by simp) (by simp [Value.oneCell']) (by unfold maxLen; omega) hbytes hbase ?_
  intro v' w' h1 h2 h3
  refine h v' w' ?_ h2 h3
  unfold OwnInts
  simpa using h1
theorem OwnInts.lit (w : World) (base : Nat) (xs : List Int) (hb : base ≤ w.heap.size) (hm : xs.length ≤ maxLen) : OwnInts (w.alloc (.cells (xs.map (Value.int .i64)).toArray 3)) base (.slice (some ⟨w.heap.size, 0, none⟩) xs.length xs.length) xs := by
  have := World.ownsRow_lit (e := 3) (size := 1) w (xs.map (Value.int .i64)).toArray xs.length hb hm (by simp)
  simpa [OwnInts] using this
theorem OwnInts.nil (w : World) (base : Nat) : OwnInts w base (.slice none 0 0) [] := World.ownsRow_nil _ _ _ _
theorem OwnInts.kept {w w' : World} {base : Nat} {v : Value} {xs : List Int} (h : OwnInts w base v xs) (hb : Below w.heap.size w w') : OwnInts w' base v xs := by
  refine ⟨h.1, ?_⟩
  rcases h.2 with h2 | ⟨g, cap, cur, hv, hg, hh, r⟩
  · exact .inl h2
  · exact .inr ⟨g, cap, cur, hv, hg, (hb.block g (Array.getElem?_eq_some_iff.1 hh).1).trans hh, r⟩
theorem grown_lit {W w1 : World} {o : Obj} {n c : Nat} (hg : (W.alloc o).grownBy w1 (Value.ownBlock (.slice (some ⟨W.heap.size, 0, none⟩) n c))) : Below W.heap.size W w1 :=
  ((Below.refl _ _).alloc (Nat.le_refl _) _).grown hg (by simp) (by intro k hk; simp [Value.ownBlock] at hk; omega)
theorem grown_own {W w1 : World} {base : Nat} {v : Value} {xs : List Int} (h : OwnInts W base v xs) (hg : W.grownBy w1 v.ownBlock) (hb : base ≤ W.heap.size) : Below base W w1 :=
  (Below.refl _ _).grown hg hb (fun k hk => (World.ownsRow.lt h k hk).1)
end Go.Proofs.Ytocngjpjheockaa
namespace Go.Proofs.Ytocngjpjheockaa
set_option maxRecDepth 100000
open Go.RowKit
set_option linter.unusedSimpArgs false
set_option linter.unusedVariables false
/-- The error of this number; 0: none. -/
def errV (e : Int) : Value := if e = 0 then .nilIface else .iface 36 (.int .i64 e)
theorem errV_zero : errV 0 = .nilIface := rfl
theorem errV_ne {e : Int} (h : e ≠ 0) : errV e = .iface 36 (.int .i64 e) := by unfold errV; rw [if_neg h]
set_option maxHeartbeats 1000000 in
theorem number_any (n : Int) (w : World) : Calls Try.prog 57 #[.int .i64 n] w fun e w' => e = .returned (.bool (!GT.far n)) ∧ w = w' := by
  by_cases h1 : n < -1073741824
  · have h2 : GT.far n = true := by simp [GT.far, h1]
    have h3 : ¬ -1073741824 ≤ n := by omega
    rw [h2]
    clear h2
    go_enter Try.func57, Try.ntmps57
    go_wp2_with fail
    go_ret
    exact ⟨rfl, rfl⟩
  · by_cases h2 : 1073741824 < n
    · have h4 : GT.far n = true := by simp [GT.far, h2]
      have h5 : ¬ n ≤ 1073741824 := by omega
      rw [h4]
      clear h4
      go_enter Try.func57, Try.ntmps57
      go_wp2_with fail
      go_ret
      exact ⟨by simp <;> omega, rfl⟩
    · have h4 : GT.far n = false := by simp [GT.far]; omega
      rw [h4]
      clear h4
      go_enter Try.func57, Try.ntmps57
      go_wp2_with fail
      go_ret
      exact ⟨by simp <;> omega, rfl⟩
set_option maxHeartbeats 1000000 in
theorem one_1a (a b : Int) (n cap : Nat) (ad : Option Addr) (ha : In64 a) (hb : In64 b) (fa : GT.far a = true) (w : World) :
    Calls Try.prog 56 #[.agg #[.int .i64 1, .int .i64 a, .int .i64 b, .slice ad n cap]] w fun e w' => e = .returned (errV 1) ∧ Below w.heap.size w w' := by
  go_enter Try.func56, Try.ntmps56
  go_wp2_with (go_at_call 57; refine (number_any _ _).mono ?_; rintro e w' ⟨rfl, rfl⟩)
  go_ret
  exact ⟨rfl, by repeat (first | with_reducible assumption | with_reducible exact Below.refl _ _ | with_reducible apply Below.drew | (with_reducible refine Below.alloc ?_ (by first | omega | (simp only [zA, zS, zD, zN]; omega) | (dsimp only; omega) | (simp only [zA, zS, zD, zN]; dsimp only; omega)) _) | (with_reducible refine Below.setCell ?_ (by first | omega | (simp only [zA, zS, zD, zN]; omega) | (dsimp only; omega) | (simp only [zA, zS, zD, zN]; dsimp only; omega)) _) | (with_reducible apply below_drewN))⟩
set_option maxHeartbeats 1000000 in
theorem one_1b (a b : Int) (n cap : Nat) (ad : Option Addr) (ha : In64 a) (hb : In64 b) (nfa : GT.far a = false) (h : n = 0) (w : World) :
    Calls Try.prog 56 #[.agg #[.int .i64 1, .int .i64 a, .int .i64 b, .slice ad n cap]] w fun e w' => e = .returned (errV 0) ∧ Below w.heap.size w w' := by
  have z1 : ¬ 0 < (n : Int) := by omega
  clear h
  go_enter Try.func56, Try.ntmps56
  go_wp2_with (go_at_call 57; refine (number_any _ _).mono ?_; rintro e w' ⟨rfl, rfl⟩)
  go_ret
  exact ⟨rfl, by repeat (first | with_reducible assumption | with_reducible exact Below.refl _ _ | with_reducible apply Below.drew | (with_reducible refine Below.alloc ?_ (by first | omega | (simp only [zA, zS, zD, zN]; omega) | (dsimp only; omega) | (simp only [zA, zS, zD, zN]; dsimp only; omega)) _) | (with_reducible refine Below.setCell ?_ (by first | omega | (simp only [zA, zS, zD, zN]; omega) | (dsimp only; omega) | (simp only [zA, zS, zD, zN]; dsimp only; omega)) _) | (with_reducible apply below_drewN))⟩
set_option maxHeartbeats 1000000 in
theorem one_1c (a b : Int) (n cap : Nat) (ad : Option Addr) (ha : In64 a) (hb : In64 b) (nfa : GT.far a = false) (h : n ≠ 0) (w : World) :
    Calls Try.prog 56 #[.agg #[.int .i64 1, .int .i64 a, .int .i64 b, .slice ad n cap]] w fun e w' => e = .returned (errV 3) ∧ Below w.heap.size w w' := by
  have z1 : 0 < (n : Int) := by omega
  clear h
  go_enter Try.func56, Try.ntmps56
  go_wp2_with (go_at_call 57; refine (number_any _ _).mono ?_; rintro e w' ⟨rfl, rfl⟩)
  go_ret
  exact ⟨rfl, by repeat (first | with_reducible assumption | with_reducible exact Below.refl _ _ | with_reducible apply Below.drew | (with_reducible refine Below.alloc ?_ (by first | omega | (simp only [zA, zS, zD, zN]; omega) | (dsimp only; omega) | (simp only [zA, zS, zD, zN]; dsimp only; omega)) _) | (with_reducible refine Below.setCell ?_ (by first | omega | (simp only [zA, zS, zD, zN]; omega) | (dsimp only; omega) | (simp only [zA, zS, zD, zN]; dsimp only; omega)) _) | (with_reducible apply below_drewN))⟩
set_option maxHeartbeats 1000000 in
theorem one_2a (a b : Int) (n cap : Nat) (ad : Option Addr) (ha : In64 a) (hb : In64 b) (fa : GT.far a = true) (w : World) :
    Calls Try.prog 56 #[.agg #[.int .i64 2, .int .i64 a, .int .i64 b, .slice ad n cap]] w fun e w' => e = .returned (errV 1) ∧ Below w.heap.size w w' := by
  go_enter Try.func56, Try.ntmps56
  go_wp2_with (go_at_call 57; refine (number_any _ _).mono ?_; rintro e w' ⟨rfl, rfl⟩)
  go_ret
  exact ⟨rfl, by repeat (first | with_reducible assumption | with_reducible exact Below.refl _ _ | with_reducible apply Below.drew | (with_reducible refine Below.alloc ?_ (by first | omega | (simp only [zA, zS, zD, zN]; omega) | (dsimp only; omega) | (simp only [zA, zS, zD, zN]; dsimp only; omega)) _) | (with_reducible refine Below.setCell ?_ (by first | omega | (simp only [zA, zS, zD, zN]; omega) | (dsimp only; omega) | (simp only [zA, zS, zD, zN]; dsimp only; omega)) _) | (with_reducible apply below_drewN))⟩
set_option maxHeartbeats 1000000 in
theorem one_2b (a b : Int) (n cap : Nat) (ad : Option Addr) (ha : In64 a) (hb : In64 b) (nfa : GT.far a = false) (fb : GT.far b = true) (w : World) :
    Calls Try.prog 56 #[.agg #[.int .i64 2, .int .i64 a, .int .i64 b, .slice ad n cap]] w fun e w' => e = .returned (errV 1) ∧ Below w.heap.size w w' := by
  go_enter Try.func56, Try.ntmps56
  go_wp2_with (go_at_call 57; refine (number_any _ _).mono ?_; rintro e w' ⟨rfl, rfl⟩)
  go_ret
  exact ⟨rfl, by repeat (first | with_reducible assumption | with_reducible exact Below.refl _ _ | with_reducible apply Below.drew | (with_reducible refine Below.alloc ?_ (by first | omega | (simp only [zA, zS, zD, zN]; omega) | (dsimp only; omega) | (simp only [zA, zS, zD, zN]; dsimp only; omega)) _) | (with_reducible refine Below.setCell ?_ (by first | omega | (simp only [zA, zS, zD, zN]; omega) | (dsimp only; omega) | (simp only [zA, zS, zD, zN]; dsimp only; omega)) _) | (with_reducible apply below_drewN))⟩
set_option maxHeartbeats 1000000 in
theorem one_2c (a b : Int) (n cap : Nat) (ad : Option Addr) (ha : In64 a) (hb : In64 b) (nfa : GT.far a = false) (nfb : GT.far b = false) (h : b < a) (w : World) :
    Calls Try.prog 56 #[.agg #[.int .i64 2, .int .i64 a, .int .i64 b, .slice ad n cap]] w fun e w' => e = .returned (errV 1) ∧ Below w.heap.size w w' := by
  go_enter Try.func56, Try.ntmps56
  go_wp2_with (go_at_call 57; refine (number_any _ _).mono ?_; rintro e w' ⟨rfl, rfl⟩)
  go_ret
  exact ⟨rfl, by repeat (first | with_reducible assumption | with_reducible exact Below.refl _ _ | with_reducible apply Below.drew | (with_reducible refine Below.alloc ?_ (by first | omega | (simp only [zA, zS, zD, zN]; omega) | (dsimp only; omega) | (simp only [zA, zS, zD, zN]; dsimp only; omega)) _) | (with_reducible refine Below.setCell ?_ (by first | omega | (simp only [zA, zS, zD, zN]; omega) | (dsimp only; omega) | (simp only [zA, zS, zD, zN]; dsimp only; omega)) _) | (with_reducible apply below_drewN))⟩
set_option maxHeartbeats 1000000 in
theorem one_2d (a b : Int) (n cap : Nat) (ad : Option Addr) (ha : In64 a) (hb : In64 b) (nfa : GT.far a = false) (nfb : GT.far b = false) (h : ¬ b < a) (h2 : 1000 < b - a) (w : World) :
    Calls Try.prog 56 #[.agg #[.int .i64 2, .int .i64 a, .int .i64 b, .slice ad n cap]] w fun e w' => e = .returned (errV 1) ∧ Below w.heap.size w w' := by
  have l1 : -1073741824 ≤ a ∧ a ≤ 1073741824 := by simp [GT.far] at nfa; omega
  have l2 : -1073741824 ≤ b ∧ b ≤ 1073741824 := by simp [GT.far] at nfb; omega
  obtain ⟨l11, l12⟩ := l1
  obtain ⟨l21, l22⟩ := l2
  go_enter Try.func56, Try.ntmps56
  go_wp2_with (go_at_call 57; refine (number_any _ _).mono ?_; rintro e w' ⟨rfl, rfl⟩)
  go_ret
  exact ⟨rfl, by repeat (first | with_reducible assumption | with_reducible exact Below.refl _ _ | with_reducible apply Below.drew | (with_reducible refine Below.alloc ?_ (by first | omega | (simp only [zA, zS, zD, zN]; omega) | (dsimp only; omega) | (simp only [zA, zS, zD, zN]; dsimp only; omega)) _) | (with_reducible refine Below.setCell ?_ (by first | omega | (simp only [zA, zS, zD, zN]; omega) | (dsimp only; omega) | (simp only [zA, zS, zD, zN]; dsimp only; omega)) _) | (with_reducible apply below_drewN))⟩
set_option maxHeartbeats 1000000 in
theorem one_2e (a b : Int) (n cap : Nat) (ad : Option Addr) (ha : In64 a) (hb : In64 b) (nfa : GT.far a = false) (nfb : GT.far b = false) (h : ¬ b < a) (h2 : ¬ 1000 < b - a) (h3 : n = 0) (w : World) :
    Calls Try.prog 56 #[.agg #[.int .i64 2, .int .i64 a, .int .i64 b, .slice ad n cap]] w fun e w' => e = .returned (errV 0) ∧ Below w.heap.size w w' := by
  have l1 : -1073741824 ≤ a ∧ a ≤ 1073741824 := by simp [GT.far] at nfa; omega
  have l2 : -1073741824 ≤ b ∧ b ≤ 1073741824 := by simp [GT.far] at nfb; omega
  obtain ⟨l11, l12⟩ := l1
  obtain ⟨l21, l22⟩ := l2
  have z1 : ¬ 0 < (n : Int) := by omega
  clear h3
  go_enter Try.func56, Try.ntmps56
  go_wp2_with (go_at_call 57; refine (number_any _ _).mono ?_; rintro e w' ⟨rfl, rfl⟩)
  go_ret
  exact ⟨rfl, by repeat (first | with_reducible assumption | with_reducible exact Below.refl _ _ | with_reducible apply Below.drew | (with_reducible refine Below.alloc ?_ (by first | omega | (simp only [zA, zS, zD, zN]; omega) | (dsimp only; omega) | (simp only [zA, zS, zD, zN]; dsimp only; omega)) _) | (with_reducible refine Below.setCell ?_ (by first | omega | (simp only [zA, zS, zD, zN]; omega) | (dsimp only; omega) | (simp only [zA, zS, zD, zN]; dsimp only; omega)) _) | (with_reducible apply below_drewN))⟩
set_option maxHeartbeats 1000000 in
theorem one_2f (a b : Int) (n cap : Nat) (ad : Option Addr) (ha : In64 a) (hb : In64 b) (nfa : GT.far a = false) (nfb : GT.far b = false) (h : ¬ b < a) (h2 : ¬ 1000 < b - a) (h3 : n ≠ 0) (w : World) :
    Calls Try.prog 56 #[.agg #[.int .i64 2, .int .i64 a, .int .i64 b, .slice ad n cap]] w fun e w' => e = .returned (errV 3) ∧ Below w.heap.size w w' := by
  have l1 : -1073741824 ≤ a ∧ a ≤ 1073741824 := by simp [GT.far] at nfa; omega
  have l2 : -1073741824 ≤ b ∧ b ≤ 1073741824 := by simp [GT.far] at nfb; omega
  obtain ⟨l11, l12⟩ := l1
  obtain ⟨l21, l22⟩ := l2
  have z1 : 0 < (n : Int) := by omega
  clear h3
  go_enter Try.func56, Try.ntmps56
  go_wp2_with (go_at_call 57; refine (number_any _ _).mono ?_; rintro e w' ⟨rfl, rfl⟩)
  go_ret
  exact ⟨rfl, by repeat (first | with_reducible assumption | with_reducible exact Below.refl _ _ | with_reducible apply Below.drew | (with_reducible refine Below.alloc ?_ (by first | omega | (simp only [zA, zS, zD, zN]; omega) | (dsimp only; omega) | (simp only [zA, zS, zD, zN]; dsimp only; omega)) _) | (with_reducible refine Below.setCell ?_ (by first | omega | (simp only [zA, zS, zD, zN]; omega) | (dsimp only; omega) | (simp only [zA, zS, zD, zN]; dsimp only; omega)) _) | (with_reducible apply below_drewN))⟩
set_option maxHeartbeats 1000000 in
theorem one_3 (a b : Int) (n cap : Nat) (ad : Option Addr) (ha : In64 a) (hb : In64 b)  (w : World) :
    Calls Try.prog 56 #[.agg #[.int .i64 3, .int .i64 a, .int .i64 b, .slice ad n cap]] w fun e w' => e = .returned (errV 0) ∧ Below w.heap.size w w' := by
  go_enter Try.func56, Try.ntmps56
  go_wp2_with (go_at_call 57; refine (number_any _ _).mono ?_; rintro e w' ⟨rfl, rfl⟩)
  go_ret
  exact ⟨rfl, by repeat (first | with_reducible assumption | with_reducible exact Below.refl _ _ | with_reducible apply Below.drew | (with_reducible refine Below.alloc ?_ (by first | omega | (simp only [zA, zS, zD, zN]; omega) | (dsimp only; omega) | (simp only [zA, zS, zD, zN]; dsimp only; omega)) _) | (with_reducible refine Below.setCell ?_ (by first | omega | (simp only [zA, zS, zD, zN]; omega) | (dsimp only; omega) | (simp only [zA, zS, zD, zN]; dsimp only; omega)) _) | (with_reducible apply below_drewN))⟩
set_option maxHeartbeats 1000000 in
theorem one_4a (a b : Int) (n cap : Nat) (ad : Option Addr) (ha : In64 a) (hb : In64 b) (h : a < 0) (w : World) :
    Calls Try.prog 56 #[.agg #[.int .i64 4, .int .i64 a, .int .i64 b, .slice ad n cap]] w fun e w' => e = .returned (errV 1) ∧ Below w.heap.size w w' := by
  go_enter Try.func56, Try.ntmps56
  go_wp2_with (go_at_call 57; refine (number_any _ _).mono ?_; rintro e w' ⟨rfl, rfl⟩)
  go_ret
  exact ⟨rfl, by repeat (first | with_reducible assumption | with_reducible exact Below.refl _ _ | with_reducible apply Below.drew | (with_reducible refine Below.alloc ?_ (by first | omega | (simp only [zA, zS, zD, zN]; omega) | (dsimp only; omega) | (simp only [zA, zS, zD, zN]; dsimp only; omega)) _) | (with_reducible refine Below.setCell ?_ (by first | omega | (simp only [zA, zS, zD, zN]; omega) | (dsimp only; omega) | (simp only [zA, zS, zD, zN]; dsimp only; omega)) _) | (with_reducible apply below_drewN))⟩
set_option maxHeartbeats 1000000 in
theorem one_4b (a b : Int) (n cap : Nat) (ad : Option Addr) (ha : In64 a) (hb : In64 b) (h : ¬ a < 0) (h2 : 5 < a) (w : World) :
    Calls Try.prog 56 #[.agg #[.int .i64 4, .int .i64 a, .int .i64 b, .slice ad n cap]] w fun e w' => e = .returned (errV 1) ∧ Below w.heap.size w w' := by
  go_enter Try.func56, Try.ntmps56
  go_wp2_with (go_at_call 57; refine (number_any _ _).mono ?_; rintro e w' ⟨rfl, rfl⟩)
  go_ret
  exact ⟨rfl, by repeat (first | with_reducible assumption | with_reducible exact Below.refl _ _ | with_reducible apply Below.drew | (with_reducible refine Below.alloc ?_ (by first | omega | (simp only [zA, zS, zD, zN]; omega) | (dsimp only; omega) | (simp only [zA, zS, zD, zN]; dsimp only; omega)) _) | (with_reducible refine Below.setCell ?_ (by first | omega | (simp only [zA, zS, zD, zN]; omega) | (dsimp only; omega) | (simp only [zA, zS, zD, zN]; dsimp only; omega)) _) | (with_reducible apply below_drewN))⟩
set_option maxHeartbeats 1000000 in
theorem one_4c (a b : Int) (n cap : Nat) (ad : Option Addr) (ha : In64 a) (hb : In64 b) (h : ¬ a < 0) (h2 : ¬ 5 < a) (h3 : n = 1) (w : World) :
    Calls Try.prog 56 #[.agg #[.int .i64 4, .int .i64 a, .int .i64 b, .slice ad n cap]] w fun e w' => e = .returned (errV 0) ∧ Below w.heap.size w w' := by
  have z1 : ((n : Int) != 1) = false := by simp; omega
  clear h3
  go_enter Try.func56, Try.ntmps56
  go_wp2_with (go_at_call 57; refine (number_any _ _).mono ?_; rintro e w' ⟨rfl, rfl⟩)
  go_ret
  exact ⟨rfl, by repeat (first | with_reducible assumption | with_reducible exact Below.refl _ _ | with_reducible apply Below.drew | (with_reducible refine Below.alloc ?_ (by first | omega | (simp only [zA, zS, zD, zN]; omega) | (dsimp only; omega) | (simp only [zA, zS, zD, zN]; dsimp only; omega)) _) | (with_reducible refine Below.setCell ?_ (by first | omega | (simp only [zA, zS, zD, zN]; omega) | (dsimp only; omega) | (simp only [zA, zS, zD, zN]; dsimp only; omega)) _) | (with_reducible apply below_drewN))⟩
set_option maxHeartbeats 1000000 in
theorem one_4d (a b : Int) (n cap : Nat) (ad : Option Addr) (ha : In64 a) (hb : In64 b) (h : ¬ a < 0) (h2 : ¬ 5 < a) (h3 : n ≠ 1) (w : World) :
    Calls Try.prog 56 #[.agg #[.int .i64 4, .int .i64 a, .int .i64 b, .slice ad n cap]] w fun e w' => e = .returned (errV 3) ∧ Below w.heap.size w w' := by
  have z1 : ((n : Int) != 1) = true := by simp; omega
  clear h3
  go_enter Try.func56, Try.ntmps56
  go_wp2_with (go_at_call 57; refine (number_any _ _).mono ?_; rintro e w' ⟨rfl, rfl⟩)
  go_ret
  exact ⟨rfl, by repeat (first | with_reducible assumption | with_reducible exact Below.refl _ _ | with_reducible apply Below.drew | (with_reducible refine Below.alloc ?_ (by first | omega | (simp only [zA, zS, zD, zN]; omega) | (dsimp only; omega) | (simp only [zA, zS, zD, zN]; dsimp only; omega)) _) | (with_reducible refine Below.setCell ?_ (by first | omega | (simp only [zA, zS, zD, zN]; omega) | (dsimp only; omega) | (simp only [zA, zS, zD, zN]; dsimp only; omega)) _) | (with_reducible apply below_drewN))⟩
set_option maxHeartbeats 1000000 in
theorem one_5a (a b : Int) (n cap : Nat) (ad : Option Addr) (ha : In64 a) (hb : In64 b) (h3 : n = 0) (w : World) :
    Calls Try.prog 56 #[.agg #[.int .i64 5, .int .i64 a, .int .i64 b, .slice ad n cap]] w fun e w' => e = .returned (errV 3) ∧ Below w.heap.size w w' := by
  have z1 : ((n : Int) == 0) = true := by simp; omega
  clear h3
  go_enter Try.func56, Try.ntmps56
  go_wp2_with (go_at_call 57; refine (number_any _ _).mono ?_; rintro e w' ⟨rfl, rfl⟩)
  go_ret
  exact ⟨rfl, by repeat (first | with_reducible assumption | with_reducible exact Below.refl _ _ | with_reducible apply Below.drew | (with_reducible refine Below.alloc ?_ (by first | omega | (simp only [zA, zS, zD, zN]; omega) | (dsimp only; omega) | (simp only [zA, zS, zD, zN]; dsimp only; omega)) _) | (with_reducible refine Below.setCell ?_ (by first | omega | (simp only [zA, zS, zD, zN]; omega) | (dsimp only; omega) | (simp only [zA, zS, zD, zN]; dsimp only; omega)) _) | (with_reducible apply below_drewN))⟩
set_option maxHeartbeats 1000000 in
theorem one_5b (a b : Int) (n cap : Nat) (ad : Option Addr) (ha : In64 a) (hb : In64 b) (h3 : n ≠ 0) (w : World) :
    Calls Try.prog 56 #[.agg #[.int .i64 5, .int .i64 a, .int .i64 b, .slice ad n cap]] w fun e w' => e = .returned (errV 0) ∧ Below w.heap.size w w' := by
  have z1 : ((n : Int) == 0) = false := by simp; omega
  clear h3
  go_enter Try.func56, Try.ntmps56
  go_wp2_with (go_at_call 57; refine (number_any _ _).mono ?_; rintro e w' ⟨rfl, rfl⟩)
  go_ret
  exact ⟨rfl, by repeat (first | with_reducible assumption | with_reducible exact Below.refl _ _ | with_reducible apply Below.drew | (with_reducible refine Below.alloc ?_ (by first | omega | (simp only [zA, zS, zD, zN]; omega) | (dsimp only; omega) | (simp only [zA, zS, zD, zN]; dsimp only; omega)) _) | (with_reducible refine Below.setCell ?_ (by first | omega | (simp only [zA, zS, zD, zN]; omega) | (dsimp only; omega) | (simp only [zA, zS, zD, zN]; dsimp only; omega)) _) | (with_reducible apply below_drewN))⟩
set_option maxHeartbeats 1000000 in
theorem one_x (k a b : Int) (n cap : Nat) (ad : Option Addr) (h1 : k ≠ 1) (h2 : k ≠ 2) (h3 : k ≠ 3) (h4 : k ≠ 4) (h5 : k ≠ 5) (w : World) :
    Calls Try.prog 56 #[.agg #[.int .i64 k, .int .i64 a, .int .i64 b, .slice ad n cap]] w fun e w' => e = .returned (errV 3) ∧ Below w.heap.size w w' := by
  have e1 : (k == 1) = false := by simp [h1]
  have e2 : (k == 2) = false := by simp [h2]
  have e3 : (k == 3) = false := by simp [h3]
  have e4 : (k == 4) = false := by simp [h4]
  have e5 : (k == 5) = false := by simp [h5]
  clear h1 h2 h3 h4 h5
  go_enter Try.func56, Try.ntmps56
  go_wp2_with (go_at_call 57; refine (number_any _ _).mono ?_; rintro e w' ⟨rfl, rfl⟩)
  go_ret
  exact ⟨rfl, by repeat (first | with_reducible assumption | with_reducible exact Below.refl _ _ | with_reducible apply Below.drew | (with_reducible refine Below.alloc ?_ (by first | omega | (simp only [zA, zS, zD, zN]; omega) | (dsimp only; omega) | (simp only [zA, zS, zD, zN]; dsimp only; omega)) _) | (with_reducible refine Below.setCell ?_ (by first | omega | (simp only [zA, zS, zD, zN]; omega) | (dsimp only; omega) | (simp only [zA, zS, zD, zN]; dsimp only; omega)) _) | (with_reducible apply below_drewN))⟩
theorem one_any (k a b : Int) (n cap : Nat) (ad : Option Addr) (ha : In64 a) (hb : In64 b) (w : World) :
    Calls Try.prog 56 #[.agg #[.int .i64 k, .int .i64 a, .int .i64 b, .slice ad n cap]] w fun e w' => e = .returned (errV (GT.oneErr k a b n)) ∧ Below w.heap.size w w' := by
  by_cases k1 : k = 1
  · subst k1
    by_cases fa : GT.far a = true
    · have hr : GT.oneErr 1 a b n = 1 := by simp [GT.oneErr, fa]
      rw [hr]; exact one_1a a b n cap ad ha hb fa w
    · have nfa : GT.far a = false := by simpa using fa
      by_cases h : n = 0
      · have hr : GT.oneErr 1 a b n = 0 := by simp [GT.oneErr, nfa, h]
        rw [hr]; exact one_1b a b n cap ad ha hb nfa h w
      · have hr : GT.oneErr 1 a b n = 3 := by simp [GT.oneErr, nfa, h]
        rw [hr]; exact one_1c a b n cap ad ha hb nfa h w
  by_cases k2 : k = 2
  · subst k2
    by_cases fa : GT.far a = true
    · have hr : GT.oneErr 2 a b n = 1 := by simp [GT.oneErr, fa]
      rw [hr]; exact one_2a a b n cap ad ha hb fa w
    have nfa : GT.far a = false := by simpa using fa
    by_cases fb : GT.far b = true
    · have hr : GT.oneErr 2 a b n = 1 := by simp [GT.oneErr, fb]
      rw [hr]; exact one_2b a b n cap ad ha hb nfa fb w
    have nfb : GT.far b = false := by simpa using fb
    by_cases h : b < a
    · have hr : GT.oneErr 2 a b n = 1 := by simp [GT.oneErr, h]
      rw [hr]; exact one_2c a b n cap ad ha hb nfa nfb h w
    by_cases h2 : 1000 < b - a
    · have hr : GT.oneErr 2 a b n = 1 := by simp [GT.oneErr, h2]
      rw [hr]; exact one_2d a b n cap ad ha hb nfa nfb h h2 w
    by_cases h3 : n = 0
    · have hr : GT.oneErr 2 a b n = 0 := by simp only [GT.oneErr, nfa, nfb, h3]; simp; omega
      rw [hr]; exact one_2e a b n cap ad ha hb nfa nfb h h2 h3 w
    · have hr : GT.oneErr 2 a b n = 3 := by simp only [GT.oneErr, nfa, nfb]; simp [h3]; omega
      rw [hr]; exact one_2f a b n cap ad ha hb nfa nfb h h2 h3 w
  by_cases k3 : k = 3
  · subst k3
    have hr : GT.oneErr 3 a b n = 0 := by simp [GT.oneErr]
    rw [hr]; exact one_3 a b n cap ad ha hb w
  by_cases k4 : k = 4
  · subst k4
    by_cases h : a < 0
    · have hr : GT.oneErr 4 a b n = 1 := by simp [GT.oneErr, h]
      rw [hr]; exact one_4a a b n cap ad ha hb h w
    by_cases h2 : 5 < a
    · have hr : GT.oneErr 4 a b n = 1 := by simp [GT.oneErr, h2]
      rw [hr]; exact one_4b a b n cap ad ha hb h h2 w
    by_cases h3 : n = 1
    · have hr : GT.oneErr 4 a b n = 0 := by simp [GT.oneErr, h3]; omega
      rw [hr]; exact one_4c a b n cap ad ha hb h h2 h3 w
    · have hr : GT.oneErr 4 a b n = 3 := by simp [GT.oneErr, h3]; omega
      rw [hr]; exact one_4d a b n cap ad ha hb h h2 h3 w
  by_cases k5 : k = 5
  · subst k5
    by_cases h3 : n = 0
    · have hr : GT.oneErr 5 a b n = 3 := by simp [GT.oneErr, h3]
      rw [hr]; exact one_5a a b n cap ad ha hb h3 w
    · have hr : GT.oneErr 5 a b n = 0 := by simp [GT.oneErr, h3]
      rw [hr]; exact one_5b a b n cap ad ha hb h3 w
  have hr : GT.oneErr k a b n = 3 := by simp [GT.oneErr, k1, k2, k3, k4, k5]
  rw [hr]; exact one_x k a b n cap ad k1 k2 k3 k4 k5 w
theorem eachL_step (s : List GT) (j : Nat) (h : j < s.length) : GT.eachErrL (s.drop j) = if GT.eachErr s[j] = 0 then GT.eachErrL (s.drop (j + 1)) else GT.eachErr s[j] := by
  rw [List.drop_eq_getElem_cons h]; rfl
set_option maxHeartbeats 2000000 in
theorem each_any (g : GT) : ∀ (v : Value) (w : World), GenAt w v g → Calls Try.prog 51 #[v] w fun e w' => e = .returned (errV (GT.eachErr g)) ∧ Below w.heap.size w w' := by
  induction g using GT.ind with
  | h k a b s ih =>
    intro v w hg
    obtain ⟨k', a', b', s', ad, cap, hmk, rfl, hk, ha, hb, hl, hm, hs⟩ := hg.form
    obtain ⟨rfl, rfl, rfl, rfl⟩ := GT.mk.inj hmk
    clear hg hmk
    have IH := Lib.hid ih
    clear ih
    have C1 := Lib.hid (one_any k a b s.length cap ad ha hb)
    by_cases h0 : GT.oneErr k a b s.length = 0
    · have hr : GT.eachErr (.mk k a b s) = GT.eachErrL (s.drop 0) := by simp [GT.eachErr, h0]
      rw [hr]
      rw [h0, errV_zero] at C1
      clear hr h0
      go_enter Try.func51, Try.ntmps51
      go_wp2_with fail
      refine (C1.out _).mono ?_
      rintro e w1 ⟨rfl, hb1⟩
      have hB1 : Below w.heap.size w w1 := Below.trans (by repeat (first | with_reducible assumption | with_reducible exact Below.refl _ _ | with_reducible apply Below.drew | (with_reducible refine Below.alloc ?_ (by first | omega | (simp only [zA, zS, zD, zN]; omega) | (dsimp only; omega) | (simp only [zA, zS, zD, zN]; dsimp only; omega)) _) | (with_reducible refine Below.setCell ?_ (by first | omega | (simp only [zA, zS, zD, zN]; omega) | (dsimp only; omega) | (simp only [zA, zS, zD, zN]; dsimp only; omega)) _) | (with_reducible apply below_drewN))) (hb1.mono (by first | omega | (simp only [zA, zS, zD, zN]; omega) | (dsimp only; omega) | (simp only [zA, zS, zD, zN]; dsimp only; omega)))
      obtain ⟨hc1, hf1, hz1⟩ := bcell hb1
      try simp only [zA, zS, zD, zN] at hz1
      clear hb1
      have y1_0 : w.heap.size < w1.heap.size := by omega
      have hs1 := hs.ext hB1
      clear hs
      go_wp2_with fail
      go_loopw [15] (fun i wr => ∃ j : Nat, j ≤ s.length ∧ i = .int .i64 j ∧ Below w1.heap.size w1 wr ∧ Hid (GT.eachErrL (s.drop 0) = GT.eachErrL (s.drop j))) (fun i _ => s.length - (intOf i).toNat)
      case atStart => exact ⟨0, by omega, rfl, Below.refl _ _, rfl⟩
      case round =>
        obtain ⟨j, hj, rfl, hb2, HE⟩ := hrel
        clear hc1 hf1
        have hzr := hb2.size
        by_cases hlt : j < s.length
        · have p0 : (0 : Int) ≤ (j : Int) := by omega
          have p1 : (j : Int) < (s.length : Int) := by omega
          obtain ⟨bl, off, rfl, hlt1, hc⟩ := (hs1.ext hb2).at' (by omega)
          obtain ⟨k2, a2, b2, t2, ad2, cap2, c0, c1, c2, c3, hg2⟩ := hc j hlt
          clear hc hs1
          have CK := Lib.hid (fun W hW => IH.out s[j] (List.getElem_mem hlt) (.agg #[.int .i64 k2, .int .i64 a2, .int .i64 b2, .slice ad2 t2 cap2]) W (hg2.ext hW))
          have ST := Lib.hid (eachL_step s j hlt)
          generalize GT.eachErr s[j] = ej at *
          have hBr : Below w.heap.size w wr := hB1.trans (hb2.mono hB1.size)
          go_wp2_with fail
          refine (CK.out _ (by repeat (first | with_reducible assumption | with_reducible exact Below.refl _ _ | with_reducible apply Below.drew | (with_reducible refine Below.alloc ?_ (by first | omega | (simp only [zA, zS, zD, zN]; omega) | (dsimp only; omega) | (simp only [zA, zS, zD, zN]; dsimp only; omega)) _) | (with_reducible refine Below.setCell ?_ (by first | omega | (simp only [zA, zS, zD, zN]; omega) | (dsimp only; omega) | (simp only [zA, zS, zD, zN]; dsimp only; omega)) _) | (with_reducible apply below_drewN)))).mono ?_
          rintro e w3 ⟨rfl, hb3⟩
          have hB3 : Below w1.heap.size w1 w3 := Below.trans (by repeat (first | with_reducible assumption | with_reducible exact Below.refl _ _ | with_reducible apply Below.drew | (with_reducible refine Below.alloc ?_ (by first | omega | (simp only [zA, zS, zD, zN]; omega) | (dsimp only; omega) | (simp only [zA, zS, zD, zN]; dsimp only; omega)) _) | (with_reducible refine Below.setCell ?_ (by first | omega | (simp only [zA, zS, zD, zN]; omega) | (dsimp only; omega) | (simp only [zA, zS, zD, zN]; dsimp only; omega)) _) | (with_reducible apply below_drewN))) (hb3.mono (by first | omega | (simp only [zA, zS, zD, zN]; omega) | (dsimp only; omega) | (simp only [zA, zS, zD, zN]; dsimp only; omega)))
          have hBw : Below w.heap.size w w3 := hB1.trans (hB3.mono hB1.size)
          clear hb3
          by_cases he : ej = 0
          · have HE2 := ST.out
            rw [if_pos he] at HE2
            rw [he, errV_zero]
            clear he
            go_wp2_with fail
            exact ⟨⟨j + 1, by omega, by go_num, hB3, HE.out.trans HE2⟩, by simp [intOf]; omega⟩
          · have HE2 := ST.out
            rw [if_neg he] at HE2
            rw [errV_ne he]
            have HN := Lib.hid he
            clear he
            go_wp2_with fail
            go_ret
            exact ⟨by rw [HE.out, HE2, errV_ne HN.out]; rfl, hBw⟩
        · have hj' : j = s.length := by omega
          have HE2 := HE.out
          rw [hj', List.drop_length] at HE2
          have hBw : Below w.heap.size w wr := hB1.trans (hb2.mono hB1.size)
          clear hj'
          go_wp2_with fail
          go_ret
          exact ⟨by rw [HE2]; rfl, hBw⟩
    · have hr : GT.eachErr (.mk k a b s) = GT.oneErr k a b s.length := by simp [GT.eachErr, h0]
      rw [hr]
      rw [errV_ne h0] at C1 ⊢
      clear hr h0
      go_enter Try.func51, Try.ntmps51
      go_wp2_with fail
      refine (C1.out _).mono ?_
      rintro e w1 ⟨rfl, hb1⟩
      have hB1 : Below w.heap.size w w1 := Below.trans (by repeat (first | with_reducible assumption | with_reducible exact Below.refl _ _ | with_reducible apply Below.drew | (with_reducible refine Below.alloc ?_ (by first | omega | (simp only [zA, zS, zD, zN]; omega) | (dsimp only; omega) | (simp only [zA, zS, zD, zN]; dsimp only; omega)) _) | (with_reducible refine Below.setCell ?_ (by first | omega | (simp only [zA, zS, zD, zN]; omega) | (dsimp only; omega) | (simp only [zA, zS, zD, zN]; dsimp only; omega)) _) | (with_reducible apply below_drewN))) (hb1.mono (by first | omega | (simp only [zA, zS, zD, zN]; omega) | (dsimp only; omega) | (simp only [zA, zS, zD, zN]; dsimp only; omega)))
      obtain ⟨hc1, hf1, hz1⟩ := bcell hb1
      try simp only [zA, zS, zD, zN] at hz1
      clear hb1
      have y1_0 : w.heap.size < w1.heap.size := by omega
      go_wp2_with fail
      go_ret
      exact ⟨rfl, by repeat (first | with_reducible assumption | with_reducible exact Below.refl _ _ | with_reducible apply Below.drew | (with_reducible refine Below.alloc ?_ (by first | omega | (simp only [zA, zS, zD, zN]; omega) | (dsimp only; omega) | (simp only [zA, zS, zD, zN]; dsimp only; omega)) _) | (with_reducible refine Below.setCell ?_ (by first | omega | (simp only [zA, zS, zD, zN]; omega) | (dsimp only; omega) | (simp only [zA, zS, zD, zN]; dsimp only; omega)) _) | (with_reducible apply below_drewN))⟩
set_option maxHeartbeats 2000000 in
theorem parts_any (g : GT) : ∀ (d : Nat) (v : Value) (w : World), d ≤ 6 → GenAt w v g → Calls Try.prog 50 #[v, .int .i64 d] w fun e w' => e = .returned (.tuple #[.int .i64 (GT.parts g d).1, .bool (GT.parts g d).2]) ∧ Below w.heap.size w w' := by
  induction g using GT.ind with
  | h k a b s ih =>
    intro d v w hd hg
    obtain ⟨k', a', b', s', ad, cap, hmk, rfl, hk, ha, hb, hl, hm, hs⟩ := hg.form
    obtain ⟨rfl, rfl, rfl, rfl⟩ := GT.mk.inj hmk
    clear hg hmk
    have IH := Lib.hid ih
    clear ih
    have HP : Hid (GT.parts (.mk k a b s) d = ((GT.partsL (s.drop 0) d (1, decide (d < 6))).1, (GT.partsL (s.drop 0) d (1, decide (d < 6))).2 && decide ((GT.partsL (s.drop 0) d (1, decide (d < 6))).1 ≤ 30))) := rfl
    have hd6 : decide ((d : Int) < 6) = decide (d < 6) := by
      by_cases h : d < 6
      · rw [decide_eq_true h, decide_eq_true (by omega)]
      · rw [decide_eq_false h, decide_eq_false (by omega)]
    have HD := Lib.hid hd6
    obtain ⟨ok0, hok0⟩ : ∃ x, decide (d < 6) = x := ⟨_, rfl⟩
    have hd6' : decide ((d : Int) < 6) = ok0 := hd6.trans hok0
    rw [hok0] at HP
    have HOK := Lib.hid hok0
    clear hd6 hok0
    go_enter Try.func50, Try.ntmps50
    go_wp2_with fail
    generalize hW0 : w.alloc (.cells #[.int .i64 k, .int .i64 a, .int .i64 b, .slice ad s.length cap] 43) = W0
    have hB0 : Below w.heap.size w W0 := by rw [← hW0]; repeat (first | with_reducible assumption | with_reducible exact Below.refl _ _ | with_reducible apply Below.drew | (with_reducible refine Below.alloc ?_ (by first | omega | (simp only [zA, zS, zD, zN]; omega) | (dsimp only; omega) | (simp only [zA, zS, zD, zN]; dsimp only; omega)) _) | (with_reducible refine Below.setCell ?_ (by first | omega | (simp only [zA, zS, zD, zN]; omega) | (dsimp only; omega) | (simp only [zA, zS, zD, zN]; dsimp only; omega)) _) | (with_reducible apply below_drewN))
    have hs1 := hs.ext hB0
    clear hs hW0 hd6'
    have hst : ok0 = true → 1 ≤ 30 := fun _ => by decide
    go_loopw [6, 7, 17] (fun n o i wr => ∃ (j : Nat) (r : Nat × Bool), j ≤ s.length ∧ n = .int .i64 r.1 ∧ o = .bool r.2 ∧ i = .int .i64 j ∧ Below W0.heap.size W0 wr ∧ Hid (GT.partsL (s.drop 0) d (1, ok0) = GT.partsL (s.drop j) d r) ∧ Hid ((r.2 = true → r.1 ≤ 30) ∧ (r.2 = true → d < 6)) ∧ r.1 ≤ 300) (fun _ _ i _ => s.length - (intOf i).toNat)
    case atStart => exact ⟨0, (1, ok0), by omega, rfl, rfl, rfl, Below.refl _ _, rfl, ⟨fun _ => by simp, fun h => by have := HOK.out; dsimp only at h; rw [h] at this; exact of_decide_eq_true this⟩, by simp⟩
    case round =>
      obtain ⟨j, ⟨n, o⟩, hj, rfl, rfl, rfl, hb2, HE, HR, hn3⟩ := hrel
      dsimp only at *
      have hzr := hb2.size
      have hz0 := hB0.size
      have hBr : Below w.heap.size w wr := hB0.trans (hb2.mono hB0.size)
      by_cases hlt : j < s.length
      · have p0 : (0 : Int) ≤ (j : Int) := by omega
        have p1 : (j : Int) < (s.length : Int) := by omega
        obtain ⟨bl, off, rfl, hlt1, hc⟩ := (hs1.ext hb2).at' (by omega)
        obtain ⟨k2, a2, b2, t2, ad2, cap2, c0, c1, c2, c3, hg2⟩ := hc j hlt
        clear hc hs1
        cases o with
        | true =>
          have hdl : d < 6 := HR.out.2 rfl
          have hn30 : n ≤ 30 := HR.out.1 rfl
          have CK := Lib.hid (fun W hW => IH.out s[j] (List.getElem_mem hlt) (d + 1) (.agg #[.int .i64 k2, .int .i64 a2, .int .i64 b2, .slice ad2 t2 cap2]) W (by omega) (hg2.ext hW))
          have HST := Lib.hid (GT.partsL_step s d j hlt n)
          have hkl := GT.parts_le s[j] (d + 1) (by omega)
          generalize GT.parts s[j] (d + 1) = pk at *
          obtain ⟨kn, ko⟩ := pk
          dsimp only at *
          have ec : ((d + 1 : Nat) : Int) = (d : Int) + 1 := by omega
          rw [ec] at CK
          go_wp2_with fail
          refine (CK.out _ (by repeat (first | with_reducible assumption | with_reducible exact Below.refl _ _ | with_reducible apply Below.drew | (with_reducible refine Below.alloc ?_ (by first | omega | (simp only [zA, zS, zD, zN]; omega) | (dsimp only; omega) | (simp only [zA, zS, zD, zN]; dsimp only; omega)) _) | (with_reducible refine Below.setCell ?_ (by first | omega | (simp only [zA, zS, zD, zN]; omega) | (dsimp only; omega) | (simp only [zA, zS, zD, zN]; dsimp only; omega)) _) | (with_reducible apply below_drewN)))).mono ?_
          rintro e w3 ⟨rfl, hb3⟩
          have hB3 : Below W0.heap.size W0 w3 := Below.trans (by repeat (first | with_reducible assumption | with_reducible exact Below.refl _ _ | with_reducible apply Below.drew | (with_reducible refine Below.alloc ?_ (by first | omega | (simp only [zA, zS, zD, zN]; omega) | (dsimp only; omega) | (simp only [zA, zS, zD, zN]; dsimp only; omega)) _) | (with_reducible refine Below.setCell ?_ (by first | omega | (simp only [zA, zS, zD, zN]; omega) | (dsimp only; omega) | (simp only [zA, zS, zD, zN]; dsimp only; omega)) _) | (with_reducible apply below_drewN))) (hb3.mono (by first | omega | (simp only [zA, zS, zD, zN]; omega) | (dsimp only; omega) | (simp only [zA, zS, zD, zN]; dsimp only; omega)))
          clear hb3
          have hsum : (n : Int) + (kn : Int) ≤ 300 := by omega
          have hsum' : n + kn ≤ 300 := by omega
          by_cases h30 : n + kn ≤ 30
          · have h30' : (n : Int) + (kn : Int) ≤ 30 := by omega
            have HDD : Hid (decide (n + kn ≤ 30) = true) := decide_eq_true h30
            have H30 := Lib.hid h30
            cases ko with
            | true =>
              go_wp2_with fail
              exact ⟨⟨j + 1, (n + kn, true), by omega, by go_num, rfl, by go_num, hB3, by have := HST.out; rw [HE.out, this, HDD.out]; rfl, ⟨fun _ => H30.out, fun _ => hdl⟩, hsum'⟩, by simp [intOf]; omega⟩
            | false =>
              go_wp2_with fail
              exact ⟨⟨j + 1, (n + kn, false), by omega, by go_num, rfl, by go_num, hB3, by have := HST.out; rw [HE.out, this, HDD.out]; rfl, ⟨fun h => (nomatch h), fun h => (nomatch h)⟩, hsum'⟩, by simp [intOf]; omega⟩
          · have h30' : decide ((n : Int) + (kn : Int) ≤ 30) = false := decide_eq_false (by omega)
            have HDD : Hid (decide (n + kn ≤ 30) = false) := decide_eq_false h30
            cases ko with
            | true =>
              go_wp2_with fail
              exact ⟨⟨j + 1, (n + kn, false), by omega, by go_num, rfl, by go_num, hB3, by have := HST.out; rw [HE.out, this, HDD.out]; rfl, ⟨fun h => (nomatch h), fun h => (nomatch h)⟩, hsum'⟩, by simp [intOf]; omega⟩
            | false =>
              go_wp2_with fail
              exact ⟨⟨j + 1, (n + kn, false), by omega, by go_num, rfl, by go_num, hB3, by have := HST.out; rw [HE.out, this, HDD.out]; rfl, ⟨fun h => (nomatch h), fun h => (nomatch h)⟩, hsum'⟩, by simp [intOf]; omega⟩
        | false =>
          have HF := HE.out
          rw [GT.partsL_stop] at HF
          have HP2 := HP.out
          rw [HF] at HP2
          have HX := Lib.hid HP2
          clear HP2 HF
          go_wp2_with fail
          go_ret2
          exact ⟨by rw [HX.out]; rfl, by repeat (first | with_reducible assumption | with_reducible exact Below.refl _ _ | with_reducible apply Below.drew | (with_reducible refine Below.alloc ?_ (by first | omega | (simp only [zA, zS, zD, zN]; omega) | (dsimp only; omega) | (simp only [zA, zS, zD, zN]; dsimp only; omega)) _) | (with_reducible refine Below.setCell ?_ (by first | omega | (simp only [zA, zS, zD, zN]; omega) | (dsimp only; omega) | (simp only [zA, zS, zD, zN]; dsimp only; omega)) _) | (with_reducible apply below_drewN))⟩
      · have HF := HE.out
        rw [List.drop_eq_nil_of_le (by omega : s.length ≤ j)] at HF
        have HF2 : GT.partsL (s.drop 0) d (1, ok0) = (n, o) := HF
        have HP2 := HP.out
        rw [HF2] at HP2
        have HX := Lib.hid HP2
        clear HP2 HF HF2
        cases o with
        | true =>
          by_cases h30 : n ≤ 30
          · have h30' : (n : Int) ≤ 30 := by omega
            have HDD : Hid (decide (n ≤ 30) = true) := decide_eq_true h30
            go_wp2_with fail
            go_ret2
            exact ⟨by rw [HX.out, HDD.out]; rfl, hBr⟩
          · have h30' : decide ((n : Int) ≤ 30) = false := decide_eq_false (by omega)
            have HDD : Hid (decide (n ≤ 30) = false) := decide_eq_false h30
            go_wp2_with fail
            go_ret2
            exact ⟨by rw [HX.out, HDD.out]; rfl, hBr⟩
        | false =>
          go_wp2_with fail
          go_ret2
          exact ⟨by rw [HX.out]; rfl, hBr⟩
end Go.Proofs.Ytocngjpjheockaa
namespace Go.Proofs.Ytocngjpjheockaa
set_option maxRecDepth 100000
open Go.RowKit
set_option linter.unusedSimpArgs false
set_option linter.unusedVariables false
set_option maxHeartbeats 1000000 in
theorem check_any (g : GT) (v : Value) (w : World) (hg : GenAt w v g) : Calls Try.prog 35 #[v] w fun e w' => e = .returned (errV (GT.check g)) ∧ Below w.heap.size w w' := by
  obtain ⟨k, a, b, s, ad, cap, hmk, rfl, hk, ha, hb, hl, hm, hs⟩ := hg.form
  have C1 : Hid (∀ W, Below w.heap.size w W → Calls Try.prog 50 #[.agg #[.int .i64 k, .int .i64 a, .int .i64 b, .slice ad s.length cap], .int .i64 0] W fun e w' => e = .returned (.tuple #[.int .i64 (GT.parts g 0).1, .bool (GT.parts g 0).2]) ∧ Below W.heap.size W w') := fun W h => parts_any g 0 (.agg #[.int .i64 k, .int .i64 a, .int .i64 b, .slice ad s.length cap]) W (by omega) (hg.ext h)
  have C2 := Lib.hid (fun W (h : Below w.heap.size w W) => each_any g (.agg #[.int .i64 k, .int .i64 a, .int .i64 b, .slice ad s.length cap]) W (hg.ext h))
  have HR : Hid (GT.check g = if (GT.parts g 0).2 then GT.eachErr g else 4) := rfl
  clear hg hmk hs hk ha hb hl hm
  generalize GT.check g = ce at *
  generalize GT.parts g 0 = pg at *
  generalize GT.eachErr g = eg at *
  obtain ⟨pn, pb⟩ := pg
  cases pb
  · go_enter Try.func35, Try.ntmps35
    go_wp2_with fail
    refine (C1.out _ (by repeat (first | with_reducible assumption | with_reducible exact Below.refl _ _ | with_reducible apply Below.drew | (with_reducible refine Below.alloc ?_ (by first | omega | (simp only [zA, zS, zD, zN]; omega) | (dsimp only; omega) | (simp only [zA, zS, zD, zN]; dsimp only; omega)) _) | (with_reducible refine Below.setCell ?_ (by first | omega | (simp only [zA, zS, zD, zN]; omega) | (dsimp only; omega) | (simp only [zA, zS, zD, zN]; dsimp only; omega)) _) | (with_reducible apply below_drewN)))).mono ?_
    rintro e w1 ⟨rfl, hb1⟩
    have hB1 : Below w.heap.size w w1 := Below.trans (by repeat (first | with_reducible assumption | with_reducible exact Below.refl _ _ | with_reducible apply Below.drew | (with_reducible refine Below.alloc ?_ (by first | omega | (simp only [zA, zS, zD, zN]; omega) | (dsimp only; omega) | (simp only [zA, zS, zD, zN]; dsimp only; omega)) _) | (with_reducible refine Below.setCell ?_ (by first | omega | (simp only [zA, zS, zD, zN]; omega) | (dsimp only; omega) | (simp only [zA, zS, zD, zN]; dsimp only; omega)) _) | (with_reducible apply below_drewN))) (hb1.mono (by first | omega | (simp only [zA, zS, zD, zN]; omega) | (dsimp only; omega) | (simp only [zA, zS, zD, zN]; dsimp only; omega)))
    obtain ⟨hc1, hf1, hz1⟩ := bcell hb1
    try simp only [zA, zS, zD, zN] at hz1
    clear hb1
    have y1_0 : w.heap.size < w1.heap.size := by omega
    go_wp2_with fail
    go_ret
    exact ⟨by rw [HR.out]; rfl, by repeat (first | with_reducible assumption | with_reducible exact Below.refl _ _ | with_reducible apply Below.drew | (with_reducible refine Below.alloc ?_ (by first | omega | (simp only [zA, zS, zD, zN]; omega) | (dsimp only; omega) | (simp only [zA, zS, zD, zN]; dsimp only; omega)) _) | (with_reducible refine Below.setCell ?_ (by first | omega | (simp only [zA, zS, zD, zN]; omega) | (dsimp only; omega) | (simp only [zA, zS, zD, zN]; dsimp only; omega)) _) | (with_reducible apply below_drewN))⟩
  · go_enter Try.func35, Try.ntmps35
    go_wp2_with fail
    refine (C1.out _ (by repeat (first | with_reducible assumption | with_reducible exact Below.refl _ _ | with_reducible apply Below.drew | (with_reducible refine Below.alloc ?_ (by first | omega | (simp only [zA, zS, zD, zN]; omega) | (dsimp only; omega) | (simp only [zA, zS, zD, zN]; dsimp only; omega)) _) | (with_reducible refine Below.setCell ?_ (by first | omega | (simp only [zA, zS, zD, zN]; omega) | (dsimp only; omega) | (simp only [zA, zS, zD, zN]; dsimp only; omega)) _) | (with_reducible apply below_drewN)))).mono ?_
    rintro e w1 ⟨rfl, hb1⟩
    have hB1 : Below w.heap.size w w1 := Below.trans (by repeat (first | with_reducible assumption | with_reducible exact Below.refl _ _ | with_reducible apply Below.drew | (with_reducible refine Below.alloc ?_ (by first | omega | (simp only [zA, zS, zD, zN]; omega) | (dsimp only; omega) | (simp only [zA, zS, zD, zN]; dsimp only; omega)) _) | (with_reducible refine Below.setCell ?_ (by first | omega | (simp only [zA, zS, zD, zN]; omega) | (dsimp only; omega) | (simp only [zA, zS, zD, zN]; dsimp only; omega)) _) | (with_reducible apply below_drewN))) (hb1.mono (by first | omega | (simp only [zA, zS, zD, zN]; omega) | (dsimp only; omega) | (simp only [zA, zS, zD, zN]; dsimp only; omega)))
    obtain ⟨hc1, hf1, hz1⟩ := bcell hb1
    try simp only [zA, zS, zD, zN] at hz1
    clear hb1
    have y1_0 : w.heap.size < w1.heap.size := by omega
    go_wp2_with fail
    refine (C2.out _ (by repeat (first | with_reducible assumption | with_reducible exact Below.refl _ _ | with_reducible apply Below.drew | (with_reducible refine Below.alloc ?_ (by first | omega | (simp only [zA, zS, zD, zN]; omega) | (dsimp only; omega) | (simp only [zA, zS, zD, zN]; dsimp only; omega)) _) | (with_reducible refine Below.setCell ?_ (by first | omega | (simp only [zA, zS, zD, zN]; omega) | (dsimp only; omega) | (simp only [zA, zS, zD, zN]; dsimp only; omega)) _) | (with_reducible apply below_drewN)))).mono ?_
    rintro e w2 ⟨rfl, hb2⟩
    have hB2 : Below w.heap.size w w2 := Below.trans (by repeat (first | with_reducible assumption | with_reducible exact Below.refl _ _ | with_reducible apply Below.drew | (with_reducible refine Below.alloc ?_ (by first | omega | (simp only [zA, zS, zD, zN]; omega) | (dsimp only; omega) | (simp only [zA, zS, zD, zN]; dsimp only; omega)) _) | (with_reducible refine Below.setCell ?_ (by first | omega | (simp only [zA, zS, zD, zN]; omega) | (dsimp only; omega) | (simp only [zA, zS, zD, zN]; dsimp only; omega)) _) | (with_reducible apply below_drewN))) (hb2.mono (by first | omega | (simp only [zA, zS, zD, zN]; omega) | (dsimp only; omega) | (simp only [zA, zS, zD, zN]; dsimp only; omega)))
    obtain ⟨hc2, hf2, hz2⟩ := bcell hb2
    try simp only [zA, zS, zD, zN] at hz2
    clear hb2
    have y2_0 : w.heap.size < w2.heap.size := by omega
    go_wp2_with fail
    go_ret
    exact ⟨by rw [HR.out]; rfl, by repeat (first | with_reducible assumption | with_reducible exact Below.refl _ _ | with_reducible apply Below.drew | (with_reducible refine Below.alloc ?_ (by first | omega | (simp only [zA, zS, zD, zN]; omega) | (dsimp only; omega) | (simp only [zA, zS, zD, zN]; dsimp only; omega)) _) | (with_reducible refine Below.setCell ?_ (by first | omega | (simp only [zA, zS, zD, zN]; omega) | (dsimp only; omega) | (simp only [zA, zS, zD, zN]; dsimp only; omega)) _) | (with_reducible apply below_drewN))⟩
/-- What Count answers. -/
def GT.countR (g : GT) : Int × Int := if GT.check g = 0 then (if 1048576 < GT.count g then (0, 4) else (GT.count g, 0)) else (0, GT.check g)
theorem GT.check_ok {g : GT} (h : GT.check g = 0) : GT.eachErr g = 0 := by
  unfold GT.check at h
  split at h
  · exact h
  · omega
end Go.Proofs.Ytocngjpjheockaa
