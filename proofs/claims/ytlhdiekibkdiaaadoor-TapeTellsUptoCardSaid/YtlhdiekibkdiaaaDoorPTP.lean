/- Plain laws of texts of tapes: a text cut at each dot; a tape's text and back. No program in sight. -/
import Derived.Test.YtlhdiekibkdiaaaDoorPTX
namespace Go.Proofs.YtlhdiekibkdiaaaDoor
set_option maxRecDepth 100000
open Go.RowKit
set_option linter.unusedSimpArgs false
set_option linter.unusedVariables false
/-! ### a text cut at a dot -/
def cutA : List UInt8 → List UInt8 → List (List UInt8)
  | acc, [] => [acc]
  | acc, c :: r => if c = 46 then acc :: cutA [] r else cutA (acc ++ [c]) r
def NoDot (s : List UInt8) : Prop := ∀ c ∈ s, c ≠ 46
theorem cutA_ne (s : List UInt8) : ∀ acc, cutA acc s ≠ [] := by
  induction s with
  | nil => intro acc; simp [cutA]
  | cons c r ih => intro acc; unfold cutA; split; simp; exact ih _
theorem cutA_nodot (a : List UInt8) : ∀ acc, NoDot a → cutA acc a = [acc ++ a] := by
  induction a with
  | nil => intro acc _; simp [cutA]
  | cons c a ih =>
    intro acc h
    unfold cutA
    rw [if_neg (h c (by simp)), ih _ (fun x hx => h x (by simp [hx]))]
    simp
theorem cutA_dot (a r : List UInt8) : ∀ acc, NoDot a → cutA acc (a ++ 46 :: r) = (acc ++ a) :: cutA [] r := by
  induction a with
  | nil => intro acc _; simp [cutA]
  | cons c a ih =>
    intro acc h
    rw [List.cons_append, cutA, if_neg (h c (by simp)), ih _ (fun x hx => h x (by simp [hx]))]
    simp
theorem cutA_len (s : List UInt8) : ∀ acc, (cutA acc s).length ≤ s.length + 1 := by
  induction s with
  | nil => intro acc; simp [cutA]
  | cons c r ih =>
    intro acc
    unfold cutA
    split
    · have := ih []; simp only [List.length_cons]; omega
    · have := ih (acc ++ [c]); simp only [List.length_cons]; omega
theorem cutA_mem (s : List UInt8) : ∀ acc, ∀ x ∈ cutA acc s, x.length ≤ acc.length + s.length := by
  induction s with
  | nil => intro acc x hx; simp [cutA] at hx; subst hx; simp
  | cons c r ih =>
    intro acc x hx
    unfold cutA at hx
    split at hx
    · rcases List.mem_cons.1 hx with rfl | hx
      · omega
      · have := ih [] x hx; simp only [List.length_cons, List.length_nil] at this ⊢; omega
    · have := ih _ x hx; simp only [List.length_cons, List.length_append, List.length_nil] at this ⊢; omega
theorem cutA_join (s : List UInt8) : ∀ acc, Lib.join (cutA acc s) [46] = acc ++ s := by
  induction s with
  | nil => intro acc; simp [cutA, Lib.join_one]
  | cons c r ih =>
    intro acc
    unfold cutA
    split
    · rename_i h
      subst h
      have h1 := ih []
      obtain ⟨p, ps, hp⟩ : ∃ p ps, cutA [] r = p :: ps := by
        cases h : cutA [] r with
        | nil => exact absurd h (cutA_ne r [])
        | cons p ps => exact ⟨p, ps, rfl⟩
      rw [hp, Lib.join_cons] at h1
      rw [hp, Lib.join_cons]
      simp only [Lib.joinTail, List.map_cons, List.flatten_cons, List.nil_append] at h1 ⊢
      rw [← h1]
      simp
    · rw [ih]; simp
theorem join_cutA (ps : List (List UInt8)) : ∀ p, NoDot p → (∀ q ∈ ps, NoDot q) → cutA [] (Lib.join (p :: ps) [46]) = p :: ps := by
  induction ps with
  | nil => intro p hp _; rw [Lib.join_one, cutA_nodot p [] hp]; simp
  | cons q ps ih =>
    intro p hp hq
    have e : Lib.join (p :: q :: ps) [46] = p ++ 46 :: Lib.join (q :: ps) [46] := by
      rw [Lib.join_cons, Lib.join_cons]
      simp [Lib.joinTail]
    rw [e, cutA_dot p _ [] hp, ih q (hq q (by simp)) (fun x hx => hq x (by simp [hx]))]
    simp
/-! ### tapes -/
def tText (l : List Int) : List UInt8 := Lib.join (l.map Lib.itoa) [46]
def TapeOk (l : List Int) : Prop := ∀ n ∈ l, 0 ≤ n ∧ n ≤ 1000
theorem itoa_nodot (n : Int) : NoDot (Lib.itoa n) := fun c hc e => by
  have := itoa_bytes n c hc
  subst e
  simp at this
theorem itoa_map_inj : ∀ (l m : List Int), (∀ n ∈ l, In64 n) → (∀ n ∈ m, In64 n) → l.map Lib.itoa = m.map Lib.itoa → l = m := by
  intro l
  induction l with
  | nil => intro m _ _ h; cases m with | nil => rfl | cons a m => cases h
  | cons x l ih =>
    intro m hl hm h
    cases m with
    | nil => cases h
    | cons y m =>
      obtain ⟨h1, h2⟩ := List.cons.inj h
      rw [itoa_inj (hl x (by simp)) (hm y (by simp)) h1, ih m (fun n hn => hl n (by simp [hn])) (fun n hn => hm n (by simp [hn])) h2]
theorem tText_nil : tText [] = [] := rfl
theorem tText_ne {l : List Int} (h : l ≠ []) : tText l ≠ [] := by
  cases l with
  | nil => exact absurd rfl h
  | cons x l =>
    unfold tText
    rw [List.map_cons, Lib.join_cons]
    intro e
    exact itoa_ne x (List.append_eq_nil_iff.1 e).1
theorem tText_cut {l : List Int} (h : l ≠ []) : cutA [] (tText l) = l.map Lib.itoa := by
  cases l with
  | nil => exact absurd rfl h
  | cons x l =>
    unfold tText
    rw [List.map_cons]
    refine join_cutA _ _ (itoa_nodot x) fun q hq => ?_
    obtain ⟨n, _, rfl⟩ := List.mem_map.1 hq
    exact itoa_nodot n
theorem tText_inj {l m : List Int} (hl : ∀ n ∈ l, In64 n) (hm : ∀ n ∈ m, In64 n) (h : tText l = tText m) : l = m := by
  by_cases h0 : l = []
  · subst h0
    rcases Classical.em (m = []) with e | e
    · exact e.symm
    · exact absurd h.symm (tText_ne e)
  · have h1 : m ≠ [] := fun e => by subst e; exact tText_ne h0 h
    have := tText_cut h0
    rw [h, tText_cut h1] at this
    exact (itoa_map_inj _ _ hm hl this).symm
theorem TapeOk.in64 {l : List Int} (h : TapeOk l) : ∀ n ∈ l, In64 n := fun n hn => by have := h n hn; exact ⟨by omega, by omega⟩
theorem tText_len (l : List Int) (h : ∀ n ∈ l, In64 n) : (tText l).length ≤ 21 * l.length := by
  have tl : ∀ l : List Int, (∀ n ∈ l, In64 n) → (Lib.joinTail [46] (l.map Lib.itoa)).length ≤ 21 * l.length := by
    intro l
    induction l with
    | nil => intro _; simp [Lib.joinTail]
    | cons x l ih =>
      intro h
      have h1 := ih (fun n hn => h n (by simp [hn]))
      have h2 := itoa_len x (h x (by simp))
      simp only [Lib.joinTail, List.map_cons, List.flatten_cons, List.length_append, List.length_cons, List.length_nil] at h1 ⊢
      omega
  cases l with
  | nil => simp [tText, Lib.join_nil]
  | cons x l =>
    have h1 := tl l (fun n hn => h n (by simp [hn]))
    have h2 := itoa_len x (h x (by simp))
    unfold tText
    rw [List.map_cons, Lib.join_cons, List.length_append]
    simp only [List.length_cons]
    omega
/-- A text is a tape's own. -/
def IsTape (s : List UInt8) (l : List Int) : Prop := TapeOk l ∧ tText l = s
theorem isTape_nil : IsTape [] [] := ⟨fun n hn => (by simp at hn), rfl⟩
theorem IsTape.cut {s : List UInt8} {l : List Int} (h : IsTape s l) (hs : s ≠ []) : cutA [] s = l.map Lib.itoa := by
  rw [← h.2]
  exact tText_cut (fun e => hs (by rw [← h.2, e]; rfl))
theorem IsTape.uniq {s : List UInt8} {l m : List Int} (h : IsTape s l) (k : IsTape s m) : l = m := tText_inj h.1.in64 k.1.in64 (h.2.trans k.2.symm)
end Go.Proofs.YtlhdiekibkdiaaaDoor
