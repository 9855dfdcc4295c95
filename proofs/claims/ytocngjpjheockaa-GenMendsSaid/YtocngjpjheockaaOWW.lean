/- What the full form of a statement gives: the length of a list that was handed in, by its bytes; an append of numbers up to what growslice bears. -/
import Derived.Test.YtocngjpjheockaaGENC
import Derived.Test.YtocngjpjheockaaOPN
import Derived.Deep.DeepAppendWide
import Derived.SizedLaws
namespace Go.Proofs.Ytocngjpjheockaa
set_option maxRecDepth 100000
open Go.ChangeShapes Go.WideShapes Go.ChangeAt Go.RowKit
set_option linter.unusedSimpArgs false
set_option linter.unusedVariables false
theorem wpl_append_wide {P : Program} {w : World} {ops : Array Oper} {rest : List Oper} {o : Oper} {a : Act} {Q : Exit → Act → World → Prop} (hgd : o.guard = none) (s x : Operand) (t : TypeId)
    (ho : o.op = .call { callee := .builtin .append, args := #[s, x], argTypes := #[t, t] })
    (base : Nat) (e : TypeId) {z : Value} {size bytes : Nat} (ht : P.underlying t = some (.slice e)) (hinfo : (P.info? e).map (fun i => (i.zero, i.size, i.bytes)) = some (some z, size, bytes)) (hzs : z.cells.size = size) (hsz : 0 < size)
    {v : Value} {n : Nat} {xs : List Value} (hs : a.eval s = v) (hown : w.ownsRow base e size v n xs)
    {src : Value} {m : Nat} {news : List Value} (hx : a.eval x = src) (hsrc : SrcAt w src m news) (hl : news.length = m * size) (h1 : ∀ u ∈ news, u.oneCell' = true)
    (h63 : n + m ≤ maxLen) (hbytes : ((n + m) + (n + m) / 4 + 192) * bytes ≤ 281474976710656) (hbase : base ≤ w.heap.size)
    (h : ∀ v' w', w'.ownsRow base e size v' (n + m) (xs ++ news) → w.grownBy w' v.ownBlock → (v' = .slice none 0 0 ↔ v = .slice none 0 0 ∧ m = 0) → wpList P ops Q rest (a.put o.dst v') w') : wpList P ops Q (o :: rest) a w := by
  obtain ⟨i, hi, hz0, hz1, hz2⟩ := info_parts hinfo
  rcases hsrc with ⟨rfl, rfl, rfl⟩ | ⟨ad, c, rfl, hnews⟩
  · refine wpList_append_own_none hgd s x t ho base e i size ht hi v n xs hs hown hx ?_
    refine h v w (by simpa using hown) ⟨rfl, rfl, rfl, Nat.le_refl _, fun _ _ _ => rfl⟩ (by simp)
  · exact wpList_append_own_wide w hgd s x t ho base e i z size bytes ht hi hz0 hz1 hz2 hzs hsz v n xs hs hown ad m c news hx hl hnews h1 h63 hbytes hbase h
theorem append_ints_wide {w : World} {ops : Array Oper} {rest : List Oper} {o : Oper} {a : Act} {Q : Exit → Act → World → Prop} (hgd : o.guard = none) (s x : Operand)
    (ho : o.op = .call { callee := .builtin .append, args := #[s, x], argTypes := #[38, 38] })
    {base : Nat} {v : Value} {xs : List Int} (hs : a.eval s = v) (hown : OwnInts w base v xs)
    {src : Value} {l : List Int} (hx : a.eval x = src) (hsrc : IntsAt w src l) (hbytes : xs.length + l.length ≤ 28147497670000) (hbase : base ≤ w.heap.size)
    (h : ∀ v' w', OwnInts w' base v' (xs ++ l) → w.grownBy w' v.ownBlock → (v' = .slice none 0 0 ↔ v = .slice none 0 0 ∧ l.length = 0) → wpList Try.prog ops Q rest (a.put o.dst v') w') : wpList Try.prog ops Q (o :: rest) a w := by
  refine wpl_append_wide hgd s x 38 ho base 3 Try.underlying38 info_int rfl (by decide) hs hown hx hsrc.src (by simp) (by simp [Value.oneCell']) (by unfold maxLen; omega) (by omega) hbase ?_
  intro v' w' h1 h2 h3
  refine h v' w' ?_ h2 h3
  unfold OwnInts
  simpa using h1
section
variable {H : Type} {enc : TypeId × Value → H} {W : World} {base b0 : Nat} {spare : Nat → Bool} {held : Bool} {v : Value} {d : DataW H} {p : List MemPlace}
theorem opens_ints_sized (hv : Value.okWide Try.prog W .any base 38 v) (h : DataW.Trod enc Try.prog W b0 (fun _ => true) held 38 v d p) :
    ∃ l, IntsAt W v l ∧ (l = [] ∨ ∃ elems spare, d = .slice elems spare ∧ l.length ≤ elems.length + spare.length) := by
  obtain ⟨a0, len, cap, rfl⟩ := okWide_slice Try.underlying38 hv
  obtain ⟨fuel, hf⟩ := h
  rcases open_ints Try.underlying38 Try.underlying3 (by kernel_rfl) hf with ⟨hcs, _⟩ | ⟨x, l, c, zs, hcs, _, hl, hm, hz, hd, hcell, hwz⟩
  · simp [Value.cells] at hcs
    obtain ⟨rfl, rfl, rfl⟩ := hcs
    exact ⟨[], ⟨by simp, .inl ⟨rfl, rfl⟩⟩, .inl rfl⟩
  · simp [Value.cells] at hcs
    obtain ⟨rfl, rfl, rfl⟩ := hcs
    have hz' : zs.length = cap := by simpa using hz
    have hlen : (zs.take len).length = len := by simp; omega
    refine ⟨zs.take len, ⟨fun n hn => bounds_i64 (hwz n (List.mem_of_mem_take hn)), .inr ⟨x, cap, by rw [hlen], by omega, hm, fun i hi => ?_⟩⟩, .inr ?_⟩
    · rw [hcell i (by omega), Joins.getD_take_lt _ _ _ _ (by omega)]
    · simp only [Prod.mk.injEq] at hd
      refine ⟨_, _, hd.1, ?_⟩
      simp only [lits, List.length_map]
      omega
end
theorem bytes_int : Program.bytesOf Try.prog 3 = 8 := by kernel_rfl
/-- How many numbers a list holds that was handed in. -/
theorem ints_sized {H : Type} {ts : List TypeId} {ds : List (DataW H)} (h : (DataW.weightsEach Try.prog ts ds).all (· ≤ reachBytes) = true) {j : Nat} {d : DataW H} {l : List Int} (ht : ts[j]? = some 38) (hd : ds[j]? = some d)
    (hl : l = [] ∨ ∃ elems spare, d = .slice elems spare ∧ l.length ≤ elems.length + spare.length) : l.length ≤ 17592186044416 := by
  rcases hl with rfl | ⟨elems, spare, rfl, hl⟩
  · simp
  · have h1 := sized_slice h ht hd Try.underlying38
    have h2 := reachBytes_lt
    rw [bytes_int] at h1
    omega
end Go.Proofs.Ytocngjpjheockaa
