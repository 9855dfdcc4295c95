/- How generators and values lie in memory. -/
import Derived.Test.YtcecpggkeaohnaaDoorBase
import Derived.Test.YtcecpggkeaohnaaDoorPGen
namespace Go.Proofs.YtcecpggkeaohnaaDoor
set_option maxRecDepth 100000
open Go.RowKit
set_option linter.unusedSimpArgs false
set_option linter.unusedVariables false
/-- A generator: four cells, the last one a slice of generators. -/
inductive GenAt (w : World) : Value → GT → Prop
  | mk {k a b : Int} {s : List GT} {ad : Option Addr} {cap : Nat} (hk : In64 k) (ha : In64 a) (hb : In64 b) (hl : s.length ≤ cap) (hm : cap ≤ 9223372036854775807) (hn : ad = none → cap = 0) (vs : Nat → Value)
      (cells : 0 < s.length → ∃ bl off, ad = some ⟨bl, off, none⟩ ∧ bl < w.heap.size ∧ ∀ i, i < s.length → ∃ c0 c1 c2 c3, vs i = .agg #[c0, c1, c2, c3] ∧ w.cell? ⟨bl, off + i * 4, none⟩ = some c0 ∧
        w.cell? ⟨bl, off + i * 4 + 1, none⟩ = some c1 ∧ w.cell? ⟨bl, off + i * 4 + 2, none⟩ = some c2 ∧ w.cell? ⟨bl, off + i * 4 + 3, none⟩ = some c3)
      (kids : ∀ i (h : i < s.length), GenAt w (vs i) s[i]) : GenAt w (.agg #[.int .i64 k, .int .i64 a, .int .i64 b, .slice ad s.length cap]) (.mk k a b s)
theorem GenAt.ext {w w' : World} {v : Value} {g : GT} (h : GenAt w v g) (hb : Below w.heap.size w w') : GenAt w' v g := by
  induction h with
  | mk hk ha hb' hl hm hn vs cells kids ih =>
    refine .mk hk ha hb' hl hm hn vs (fun hp => ?_) (fun i hi => ih i hi)
    obtain ⟨bl, off, e, hlt, hc⟩ := cells hp
    refine ⟨bl, off, e, Nat.lt_of_lt_of_le hlt hb.size, fun i hi => ?_⟩
    obtain ⟨c0, c1, c2, c3, hv, h0, h1, h2, h3⟩ := hc i hi
    exact ⟨c0, c1, c2, c3, hv, (hb.cell (p := ⟨bl, _, none⟩) hlt).trans h0, (hb.cell (p := ⟨bl, _, none⟩) hlt).trans h1, (hb.cell (p := ⟨bl, _, none⟩) hlt).trans h2, (hb.cell (p := ⟨bl, _, none⟩) hlt).trans h3⟩
/-- A slice of generators. -/
structure GensAt (w : World) (ad : Option Addr) (s : List GT) : Prop where
  at' : 0 < s.length → ∃ bl off, ad = some ⟨bl, off, none⟩ ∧ bl < w.heap.size ∧ ∀ i (h : i < s.length), ∃ k a b t ad' cap, w.cell? ⟨bl, off + i * 4, none⟩ = some (.int .i64 k) ∧
        w.cell? ⟨bl, off + i * 4 + 1, none⟩ = some (.int .i64 a) ∧ w.cell? ⟨bl, off + i * 4 + 2, none⟩ = some (.int .i64 b) ∧ w.cell? ⟨bl, off + i * 4 + 3, none⟩ = some (.slice ad' t cap) ∧
        GenAt w (.agg #[.int .i64 k, .int .i64 a, .int .i64 b, .slice ad' t cap]) s[i]
theorem GenAt.shape {w : World} {v : Value} {g : GT} (h : GenAt w v g) : ∃ k a b t ad cap, v = .agg #[.int .i64 k, .int .i64 a, .int .i64 b, .slice ad t cap] := by
  cases h; exact ⟨_, _, _, _, _, _, rfl⟩
theorem GenAt.form {w : World} {v : Value} {g : GT} (h : GenAt w v g) : ∃ k a b s ad cap, g = .mk k a b s ∧ v = .agg #[.int .i64 k, .int .i64 a, .int .i64 b, .slice ad s.length cap] ∧ In64 k ∧ In64 a ∧ In64 b ∧ s.length ≤ cap ∧ cap ≤ 9223372036854775807 ∧ GensAt w ad s := by
  cases h with
  | mk hk ha hb hl hm hn vs cells kids =>
    refine ⟨_, _, _, _, _, _, rfl, rfl, hk, ha, hb, hl, hm, ⟨fun hp => ?_⟩⟩
    obtain ⟨bl, off, e, hlt, hc⟩ := cells hp
    refine ⟨bl, off, e, hlt, fun i hi => ?_⟩
    obtain ⟨c0, c1, c2, c3, hv, h0, h1, h2, h3⟩ := hc i hi
    obtain ⟨k', a', b', t, ad', cap', he⟩ := (kids i hi).shape
    have hk := kids i hi
    rw [hv] at he
    rw [hv] at hk
    simp only [Value.agg.injEq] at he
    have e0 := congrArg (fun z : Array Value => z[0]?) he
    have e1 := congrArg (fun z : Array Value => z[1]?) he
    have e2 := congrArg (fun z : Array Value => z[2]?) he
    have e3 := congrArg (fun z : Array Value => z[3]?) he
    simp at e0 e1 e2 e3
    subst e0 e1 e2 e3
    exact ⟨_, _, _, _, _, _, h0, h1, h2, h3, hk⟩
/-- A nil slice has no capacity. -/
theorem GenAt.nil0 {w : World} {k a b : Int} {n cap : Nat} {ad : Option Addr} {g : GT} (h : GenAt w (.agg #[.int .i64 k, .int .i64 a, .int .i64 b, .slice ad n cap]) g) : ad = none → cap = 0 := by
  generalize hv : Value.agg #[.int .i64 k, .int .i64 a, .int .i64 b, .slice ad n cap] = v at h
  cases h with
  | mk hk ha hb hl hm hn vs cells kids =>
    simp only [Value.agg.injEq] at hv
    have e3 := congrArg (fun z : Array Value => z[3]?) hv
    simp at e3
    obtain ⟨rfl, _, rfl⟩ := e3
    exact hn
theorem GensAt.ext {w w' : World} {ad : Option Addr} {s : List GT} (h : GensAt w ad s) (hb : Below w.heap.size w w') : GensAt w' ad s := by
  refine ⟨fun hp => ?_⟩
  obtain ⟨bl, off, e, hlt, hc⟩ := h.at' hp
  refine ⟨bl, off, e, Nat.lt_of_lt_of_le hlt hb.size, fun i hi => ?_⟩
  obtain ⟨k, a, b, t, ad', cap, h0, h1, h2, h3, hg⟩ := hc i hi
  exact ⟨k, a, b, t, ad', cap, (hb.cell (p := ⟨bl, _, none⟩) hlt).trans h0, (hb.cell (p := ⟨bl, _, none⟩) hlt).trans h1, (hb.cell (p := ⟨bl, _, none⟩) hlt).trans h2, (hb.cell (p := ⟨bl, _, none⟩) hlt).trans h3, hg.ext hb⟩
theorem GenAt.make {w : World} {k a b : Int} {s : List GT} {ad : Option Addr} {cap : Nat} (hk : In64 k) (ha : In64 a) (hb : In64 b) (hl : s.length ≤ cap) (hm : cap ≤ 9223372036854775807) (hn : ad = none → cap = 0) (h : GensAt w ad s) :
    GenAt w (.agg #[.int .i64 k, .int .i64 a, .int .i64 b, .slice ad s.length cap]) (.mk k a b s) := by
  by_cases hp : 0 < s.length
  · obtain ⟨bl, off, e, hlt, hc⟩ := h.at' hp
    have hch : ∀ i : Nat, ∃ v : Value, ∀ hi : i < s.length, (∃ c0 c1 c2 c3, v = .agg #[c0, c1, c2, c3] ∧ w.cell? ⟨bl, off + i * 4, none⟩ = some c0 ∧
        w.cell? ⟨bl, off + i * 4 + 1, none⟩ = some c1 ∧ w.cell? ⟨bl, off + i * 4 + 2, none⟩ = some c2 ∧ w.cell? ⟨bl, off + i * 4 + 3, none⟩ = some c3) ∧ GenAt w v s[i] := by
      intro i
      by_cases hi : i < s.length
      · obtain ⟨k, a, b, t, ad', cap, h0, h1, h2, h3, hg⟩ := hc i hi
        exact ⟨_, fun _ => ⟨⟨_, _, _, _, rfl, h0, h1, h2, h3⟩, hg⟩⟩
      · exact ⟨.nilIface, fun h => absurd h hi⟩
    refine .mk hk ha hb hl hm hn (fun i => (hch i).choose) (fun _ => ⟨bl, off, e, hlt, fun i hi => ((hch i).choose_spec hi).1⟩) (fun i hi => ((hch i).choose_spec hi).2)
  · exact .mk hk ha hb hl hm hn (fun _ => .nilIface) (fun h => absurd h hp) (fun i hi => absurd (Nat.lt_of_le_of_lt (Nat.zero_le _) hi) hp)
end Go.Proofs.YtcecpggkeaohnaaDoor
