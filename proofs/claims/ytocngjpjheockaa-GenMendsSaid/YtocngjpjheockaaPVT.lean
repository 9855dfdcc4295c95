/- Values: how they lie in memory, what is wrong with them (plain). -/
import Derived.Test.YtocngjpjheockaaGENC
import Derived.Test.YtocngjpjheockaaPA
namespace Go.Proofs.Ytocngjpjheockaa
set_option maxRecDepth 100000
open Go.RowKit
set_option linter.unusedSimpArgs false
set_option linter.unusedVariables false
/-! ### a value, all of whose lists lie in these blocks -/
inductive ValIn (S : Nat → Prop) (w : World) : Value → VT → Prop
  | mk {l : Bool} {n : Int} {s : List VT} {ad : Option Addr} {cap : Nat} (hn : In64 n) (hl : s.length ≤ cap) (hm : cap ≤ 9223372036854775807) (vs : Nat → Value)
      (cells : 0 < s.length → ∃ bl off, ad = some ⟨bl, off, none⟩ ∧ bl < w.heap.size ∧ S bl ∧ ∀ i, i < s.length → ∃ c0 c1 c2, vs i = .agg #[c0, c1, c2] ∧ w.cell? ⟨bl, off + i * 3, none⟩ = some c0 ∧
        w.cell? ⟨bl, off + i * 3 + 1, none⟩ = some c1 ∧ w.cell? ⟨bl, off + i * 3 + 2, none⟩ = some c2)
      (kids : ∀ i (h : i < s.length), ValIn S w (vs i) s[i]) : ValIn S w (.agg #[.bool l, .int .i64 n, .slice ad s.length cap]) (.mk l n s)
theorem ValIn.keep {S S' : Nat → Prop} {w w' : World} {v : Value} {t : VT} (h : ValIn S w v t) (hz : w.heap.size ≤ w'.heap.size) (hS : ∀ b, S b → b < w.heap.size → S' b ∧ w'.heap[b]? = w.heap[b]?) : ValIn S' w' v t := by
  induction h with
  | mk hn hl hm vs cells kids ih =>
    refine .mk hn hl hm vs (fun hp => ?_) (fun i hi => ih i hi)
    obtain ⟨bl, off, e, hlt, hs, hc⟩ := cells hp
    obtain ⟨h1, h2⟩ := hS bl hs hlt
    refine ⟨bl, off, e, Nat.lt_of_lt_of_le hlt hz, h1, fun i hi => ?_⟩
    obtain ⟨c0, c1, c2, hv, k0, k1, k2⟩ := hc i hi
    have e : ∀ o, w'.cell? ⟨bl, o, none⟩ = w.cell? ⟨bl, o, none⟩ := fun o => World.cell?_of_block (a := ⟨bl, o, none⟩) h2
    exact ⟨c0, c1, c2, hv, (e _).trans k0, (e _).trans k1, (e _).trans k2⟩
abbrev ValAt (w : World) (v : Value) (t : VT) : Prop := ValIn (fun _ => True) w v t
theorem ValIn.at {S : Nat → Prop} {w : World} {v : Value} {t : VT} (h : ValIn S w v t) : ValAt w v t := h.keep (Nat.le_refl _) (fun _ _ _ => ⟨trivial, rfl⟩)
theorem ValIn.ext {S : Nat → Prop} {w w' : World} {v : Value} {t : VT} (h : ValIn S w v t) (hb : Below w.heap.size w w') : ValIn S w' v t := h.keep hb.size (fun b hs hlt => ⟨hs, hb.block b hlt⟩)
theorem ValIn.shape {S : Nat → Prop} {w : World} {v : Value} {t : VT} (h : ValIn S w v t) : ∃ l n k ad cap, v = .agg #[.bool l, .int .i64 n, .slice ad k cap] := by
  cases h; exact ⟨_, _, _, _, _, rfl⟩
theorem ValIn.leaf {S : Nat → Prop} {w : World} (l : Bool) (n : Int) (hn : In64 n) : ValIn S w (.agg #[.bool l, .int .i64 n, .slice none 0 0]) (.mk l n []) :=
  ValIn.mk (s := []) hn (by simp) (by simp) (fun _ => .nilIface) (fun h => absurd h (by simp)) (fun i hi => absurd hi (by simp))

namespace VT
mutual
def chk : VT → Nat → Int
  | .mk l n s, d => if (l = true ∧ n ≠ 0) ∨ (l = false ∧ s.length ≠ 0) then 3 else if 6 ≤ d then 4 else chkL s (d + 1)
def chkL : List VT → Nat → Int
  | [], _ => 0
  | x :: s, d => if chk x d = 0 then chkL s d else chk x d
end
theorem chkL_zero (s : List VT) (d : Nat) : chkL s d = 0 ↔ ∀ x ∈ s, chk x d = 0 := by
  induction s with
  | nil => simp [chkL]
  | cons x s ih =>
    simp only [chkL, List.mem_cons, forall_eq_or_imp, ← ih]
    split
    · rename_i h; simp [h]
    · rename_i h; simp [h]
theorem chkL_step (s : List VT) (d j : Nat) (h : j < s.length) : chkL (s.drop j) d = if chk s[j] d = 0 then chkL (s.drop (j + 1)) d else chk s[j] d := by
  rw [List.drop_eq_getElem_cons h]; rfl
end VT
/-- A slice of values. -/
structure ValsAt (w : World) (ad : Option Addr) (s : List VT) : Prop where
  at' : 0 < s.length → ∃ bl off, ad = some ⟨bl, off, none⟩ ∧ bl < w.heap.size ∧ ∀ i (h : i < s.length), ∃ l n ad' t cap, w.cell? ⟨bl, off + i * 3, none⟩ = some (.bool l) ∧
        w.cell? ⟨bl, off + i * 3 + 1, none⟩ = some (.int .i64 n) ∧ w.cell? ⟨bl, off + i * 3 + 2, none⟩ = some (.slice ad' t cap) ∧ ValAt w (.agg #[.bool l, .int .i64 n, .slice ad' t cap]) s[i]
theorem ValIn.form {w : World} {v : Value} {t : VT} (h : ValAt w v t) : ∃ l n s ad cap, t = .mk l n s ∧ v = .agg #[.bool l, .int .i64 n, .slice ad s.length cap] ∧ In64 n ∧ s.length ≤ cap ∧ cap ≤ 9223372036854775807 ∧ ValsAt w ad s := by
  cases h with
  | mk hn hl hm vs cells kids =>
    refine ⟨_, _, _, _, _, rfl, rfl, hn, hl, hm, ⟨fun hp => ?_⟩⟩
    obtain ⟨bl, off, e, hlt, _, hc⟩ := cells hp
    refine ⟨bl, off, e, hlt, fun i hi => ?_⟩
    obtain ⟨c0, c1, c2, hv, h0, h1, h2⟩ := hc i hi
    obtain ⟨l', n', t', ad', cap', he⟩ := (kids i hi).shape
    have hk := kids i hi
    rw [hv] at he hk
    simp only [Value.agg.injEq] at he
    have e0 := congrArg (fun z : Array Value => z[0]?) he
    have e1 := congrArg (fun z : Array Value => z[1]?) he
    have e2 := congrArg (fun z : Array Value => z[2]?) he
    simp at e0 e1 e2
    subst e0 e1 e2
    exact ⟨_, _, _, _, _, h0, h1, h2, hk⟩
theorem ValsAt.ext {w w' : World} {ad : Option Addr} {s : List VT} (h : ValsAt w ad s) (hb : Below w.heap.size w w') : ValsAt w' ad s := by
  refine ⟨fun hp => ?_⟩
  obtain ⟨bl, off, e, hlt, hc⟩ := h.at' hp
  refine ⟨bl, off, e, Nat.lt_of_lt_of_le hlt hb.size, fun i hi => ?_⟩
  obtain ⟨l, n, ad', t, cap, h0, h1, h2, hg⟩ := hc i hi
  exact ⟨l, n, ad', t, cap, (hb.cell (p := ⟨bl, _, none⟩) hlt).trans h0, (hb.cell (p := ⟨bl, _, none⟩) hlt).trans h1, (hb.cell (p := ⟨bl, _, none⟩) hlt).trans h2, hg.ext hb⟩
end Go.Proofs.Ytocngjpjheockaa
