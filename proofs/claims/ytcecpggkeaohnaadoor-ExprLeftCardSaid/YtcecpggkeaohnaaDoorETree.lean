/- How expressions lie in memory; what lies there fits in 64 bits. -/
import Derived.Test.YtcecpggkeaohnaaDoorPExprL
import Derived.Test.YtcecpggkeaohnaaDoorMadeB
import Derived.Test.YtcecpggkeaohnaaDoorValC
namespace Go.Proofs.YtcecpggkeaohnaaDoor
set_option maxRecDepth 100000
open Go.RowKit
set_option linter.unusedSimpArgs false
set_option linter.unusedVariables false
/-- An expression: three cells, the last one a slice of expressions. -/
inductive ExprAt (w : World) : Value → ET → Prop
  | mk {k n : Int} {s : List ET} {ad : Option Addr} {cap : Nat} (hk : In64 k) (hn : In64 n) (hl : s.length ≤ cap) (hm : cap ≤ 9223372036854775807) (vs : Nat → Value)
      (cells : 0 < s.length → ∃ bl off, ad = some ⟨bl, off, none⟩ ∧ bl < w.heap.size ∧ ∀ i, i < s.length → ∃ c0 c1 c2, vs i = .agg #[c0, c1, c2] ∧ w.cell? ⟨bl, off + i * 3, none⟩ = some c0 ∧
        w.cell? ⟨bl, off + i * 3 + 1, none⟩ = some c1 ∧ w.cell? ⟨bl, off + i * 3 + 2, none⟩ = some c2)
      (kids : ∀ i (h : i < s.length), ExprAt w (vs i) s[i]) : ExprAt w (.agg #[.int .i64 k, .int .i64 n, .slice ad s.length cap]) (.mk k n s)
theorem ExprAt.ext {w w' : World} {v : Value} {g : ET} (h : ExprAt w v g) (hb : Below w.heap.size w w') : ExprAt w' v g := by
  induction h with
  | mk hk hn hl hm vs cells kids ih =>
    refine .mk hk hn hl hm vs (fun hp => ?_) (fun i hi => ih i hi)
    obtain ⟨bl, off, e, hlt, hc⟩ := cells hp
    refine ⟨bl, off, e, Nat.lt_of_lt_of_le hlt hb.size, fun i hi => ?_⟩
    obtain ⟨c0, c1, c2, hv, h0, h1, h2⟩ := hc i hi
    exact ⟨c0, c1, c2, hv, (hb.cell (p := ⟨bl, _, none⟩) hlt).trans h0, (hb.cell (p := ⟨bl, _, none⟩) hlt).trans h1, (hb.cell (p := ⟨bl, _, none⟩) hlt).trans h2⟩
/-- A slice of expressions. -/
structure ExprsAt (w : World) (ad : Option Addr) (s : List ET) : Prop where
  at' : 0 < s.length → ∃ bl off, ad = some ⟨bl, off, none⟩ ∧ bl < w.heap.size ∧ ∀ i (h : i < s.length), ∃ k n t ad' cap, w.cell? ⟨bl, off + i * 3, none⟩ = some (.int .i64 k) ∧
        w.cell? ⟨bl, off + i * 3 + 1, none⟩ = some (.int .i64 n) ∧ w.cell? ⟨bl, off + i * 3 + 2, none⟩ = some (.slice ad' t cap) ∧
        ExprAt w (.agg #[.int .i64 k, .int .i64 n, .slice ad' t cap]) s[i]
theorem ExprAt.shape {w : World} {v : Value} {g : ET} (h : ExprAt w v g) : ∃ k n t ad cap, v = .agg #[.int .i64 k, .int .i64 n, .slice ad t cap] := by
  cases h; exact ⟨_, _, _, _, _, rfl⟩
theorem ExprAt.form {w : World} {v : Value} {g : ET} (h : ExprAt w v g) : ∃ k n s ad cap, g = .mk k n s ∧ v = .agg #[.int .i64 k, .int .i64 n, .slice ad s.length cap] ∧ In64 k ∧ In64 n ∧ s.length ≤ cap ∧ cap ≤ 9223372036854775807 ∧ ExprsAt w ad s := by
  cases h with
  | mk hk hn hl hm vs cells kids =>
    refine ⟨_, _, _, _, _, rfl, rfl, hk, hn, hl, hm, ⟨fun hp => ?_⟩⟩
    obtain ⟨bl, off, e, hlt, hc⟩ := cells hp
    refine ⟨bl, off, e, hlt, fun i hi => ?_⟩
    obtain ⟨c0, c1, c2, hv, h0, h1, h2⟩ := hc i hi
    obtain ⟨k', n', t, ad', cap', he⟩ := (kids i hi).shape
    have hk := kids i hi
    rw [hv] at he
    rw [hv] at hk
    simp only [Value.agg.injEq] at he
    have e0 := congrArg (fun z : Array Value => z[0]?) he
    have e1 := congrArg (fun z : Array Value => z[1]?) he
    have e2 := congrArg (fun z : Array Value => z[2]?) he
    simp at e0 e1 e2
    subst e0 e1 e2
    exact ⟨_, _, _, _, _, h0, h1, h2, hk⟩
theorem ExprsAt.ext {w w' : World} {ad : Option Addr} {s : List ET} (h : ExprsAt w ad s) (hb : Below w.heap.size w w') : ExprsAt w' ad s := by
  refine ⟨fun hp => ?_⟩
  obtain ⟨bl, off, e, hlt, hc⟩ := h.at' hp
  refine ⟨bl, off, e, Nat.lt_of_lt_of_le hlt hb.size, fun i hi => ?_⟩
  obtain ⟨k, n, t, ad', cap, h0, h1, h2, hg⟩ := hc i hi
  exact ⟨k, n, t, ad', cap, (hb.cell (p := ⟨bl, _, none⟩) hlt).trans h0, (hb.cell (p := ⟨bl, _, none⟩) hlt).trans h1, (hb.cell (p := ⟨bl, _, none⟩) hlt).trans h2, hg.ext hb⟩
theorem ExprAt.make {w : World} {k n : Int} {s : List ET} {ad : Option Addr} {cap : Nat} (hk : In64 k) (hn : In64 n) (hl : s.length ≤ cap) (hm : cap ≤ 9223372036854775807) (h : ExprsAt w ad s) :
    ExprAt w (.agg #[.int .i64 k, .int .i64 n, .slice ad s.length cap]) (.mk k n s) := by
  by_cases hp : 0 < s.length
  · obtain ⟨bl, off, e, hlt, hc⟩ := h.at' hp
    have hch : ∀ i : Nat, ∃ v : Value, ∀ hi : i < s.length, (∃ c0 c1 c2, v = .agg #[c0, c1, c2] ∧ w.cell? ⟨bl, off + i * 3, none⟩ = some c0 ∧ w.cell? ⟨bl, off + i * 3 + 1, none⟩ = some c1 ∧ w.cell? ⟨bl, off + i * 3 + 2, none⟩ = some c2) ∧ ExprAt w v s[i] := by
      intro i
      by_cases hi : i < s.length
      · obtain ⟨k, n, t, ad', cap, h0, h1, h2, hg⟩ := hc i hi
        exact ⟨_, fun _ => ⟨⟨_, _, _, rfl, h0, h1, h2⟩, hg⟩⟩
      · exact ⟨.nilIface, fun h => absurd h hi⟩
    refine .mk hk hn hl hm (fun i => (hch i).choose) (fun _ => ⟨bl, off, e, hlt, fun i hi => ((hch i).choose_spec hi).1⟩) (fun i hi => ((hch i).choose_spec hi).2)
  · exact .mk hk hn hl hm (fun _ => .nilIface) (fun h => absurd h hp) (fun i hi => absurd (Nat.lt_of_le_of_lt (Nat.zero_le _) hi) hp)
theorem ExprAt.leaf {w : World} (k n : Int) (hk : In64 k) (hn : In64 n) : ExprAt w (.agg #[.int .i64 k, .int .i64 n, .slice none 0 0]) (.mk k n []) :=
  ExprAt.make (s := []) hk hn (by simp) (by simp) ⟨fun h => absurd h (by simp)⟩
/-- Two, one behind the other in a block; one. -/
theorem exprs_two {w : World} {b : Nat} {k n k' n' : Int} {t t' cap cap' : Nat} {ad ad' : Option Addr} {x y : ET} (hb : Blk w b #[.int .i64 k, .int .i64 n, .slice ad t cap, .int .i64 k', .int .i64 n', .slice ad' t' cap'] 24)
    (hx : ExprAt w (.agg #[.int .i64 k, .int .i64 n, .slice ad t cap]) x) (hy : ExprAt w (.agg #[.int .i64 k', .int .i64 n', .slice ad' t' cap']) y) : ExprsAt w (some ⟨b, 0, none⟩) [x, y] := by
  refine ⟨fun _ => ⟨b, 0, rfl, hb.lt, fun i hi => ?_⟩⟩
  have : i = 0 ∨ i = 1 := by simp at hi; omega
  rcases this with rfl | rfl
  · exact ⟨k, n, t, ad, cap, hb.cell 0, hb.cell 1, hb.cell 2, hx⟩
  · exact ⟨k', n', t', ad', cap', hb.cell 3, hb.cell 4, hb.cell 5, hy⟩
theorem exprs_one {w : World} {b : Nat} {k n : Int} {t cap : Nat} {ad : Option Addr} {x : ET} (hb : Blk w b #[.int .i64 k, .int .i64 n, .slice ad t cap] 24)
    (hx : ExprAt w (.agg #[.int .i64 k, .int .i64 n, .slice ad t cap]) x) : ExprsAt w (some ⟨b, 0, none⟩) [x] := by
  refine ⟨fun _ => ⟨b, 0, rfl, hb.lt, fun i hi => ?_⟩⟩
  have : i = 0 := by simpa using hi
  subst this
  exact ⟨k, n, t, ad, cap, hb.cell 0, hb.cell 1, hb.cell 2, hx⟩
theorem ExprAt.fit {w : World} {v : Value} {g : ET} (h : ExprAt w v g) : ET.Fit g := by
  induction h with
  | mk hk hn hl hm vs cells kids ih =>
    refine ⟨hn, (ET.fitL_mem _).2 fun x hx => ?_⟩
    obtain ⟨i, hi, rfl⟩ := List.getElem_of_mem hx
    exact ih i hi
theorem ValIn.fit {S : Nat → Prop} {w : World} {v : Value} {t : VT} (h : ValIn S w v t) : VT.Fit t := by
  induction h with
  | mk hn hl hm vs cells kids ih =>
    refine ⟨hn, by omega, (VT.fitL_mem _).2 fun x hx => ?_⟩
    obtain ⟨i, hi, rfl⟩ := List.getElem_of_mem hx
    exact ih i hi
end Go.Proofs.YtcecpggkeaohnaaDoor
