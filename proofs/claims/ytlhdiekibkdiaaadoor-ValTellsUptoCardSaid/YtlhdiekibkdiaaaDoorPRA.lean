/- Plain laws of the reference's reader of values: it accepts just the right texts. No program in sight. -/
import Derived.Test.YtlhdiekibkdiaaaDoorPTX
namespace Go.Proofs.YtlhdiekibkdiaaaDoor
set_option maxRecDepth 100000
open Go.RowKit
set_option linter.unusedSimpArgs false
set_option linter.unusedVariables false
/-- Where a number ends. -/
def stopN : List UInt8 → Nat
  | [] => 0
  | c :: r => if c = 32 ∨ c = 41 then 0 else stopN r + 1
open Classical in
noncomputable def numS (l : List UInt8) : Option Int := if h : ∃ m, In64 m ∧ l = Lib.itoa m then some h.choose else none
theorem numS_itoa {m : Int} (h : In64 m) : numS (Lib.itoa m) = some m := by
  have hx : ∃ k, In64 k ∧ Lib.itoa m = Lib.itoa k := ⟨m, h, rfl⟩
  unfold numS
  rw [dif_pos hx]
  exact congrArg some (itoa_inj h hx.choose_spec.1 hx.choose_spec.2).symm
theorem numS_some {l : List UInt8} {m : Int} (h : numS l = some m) : In64 m ∧ l = Lib.itoa m := by
  unfold numS at h
  split at h
  · rename_i hx
    obtain rfl := Option.some.inj h
    exact hx.choose_spec
  · cases h
theorem numS_none {l : List UInt8} (h : ∀ m, In64 m → l ≠ Lib.itoa m) : numS l = none := by
  unfold numS
  rw [dif_neg]
  rintro ⟨m, h1, h2⟩
  exact h m h1 h2
def rvL (f : List UInt8 → Option (VT × List UInt8)) : Nat → List VT → List UInt8 → Option (List VT × List UInt8)
  | 0, _, _ => none
  | _ + 1, _, [] => none
  | n + 1, items, c :: r =>
    if c = 41 then some (items, r)
    else if items.isEmpty = false then
      if c = 32 then (match f r with | none => none | some x => rvL f n (items ++ [x.1]) x.2) else none
    else match f (c :: r) with | none => none | some x => rvL f n (items ++ [x.1]) x.2
noncomputable def rvA : Nat → List UInt8 → Option (VT × List UInt8)
  | 0, _ => none
  | _ + 1, [] => none
  | d + 1, c :: r =>
    if c = 40 then (match rvL (rvA d) (r.length + 1) [] r with | none => none | some x => some (.mk true 0 x.1, x.2))
    else match numS ((c :: r).take (stopN (c :: r))) with | none => none | some n => some (.mk false n [], (c :: r).drop (stopN (c :: r)))
theorem rvL_lt {f : List UInt8 → Option (VT × List UInt8)} (hf : ∀ s x, f s = some x → x.2.length < s.length) : ∀ n items s x, rvL f n items s = some x → x.2.length < s.length := by
  intro n
  induction n with
  | zero => intro items s x h; cases h
  | succ n ih =>
    intro items s x h
    cases s with
    | nil => cases h
    | cons c r =>
      unfold rvL at h
      split at h
      · obtain rfl := Option.some.inj h; simp
      · split at h
        · split at h
          · split at h
            · cases h
            · rename_i y hy
              have h1 := hf _ _ hy
              have h2 := ih _ _ _ h
              simp only [List.length_cons]; omega
          · cases h
        · split at h
          · cases h
          · rename_i y hy
            have h1 := hf _ _ hy
            have h2 := ih _ _ _ h
            omega
theorem rvA_lt : ∀ d s x, rvA d s = some x → x.2.length < s.length := by
  intro d
  induction d with
  | zero => intro s x h; cases h
  | succ d ih =>
    intro s x h
    cases s with
    | nil => cases h
    | cons c r =>
      unfold rvA at h
      split at h
      · split at h
        · cases h
        · rename_i y hy
          obtain rfl := Option.some.inj h
          have := rvL_lt ih _ _ _ _ hy
          simp only [List.length_cons]; omega
      · split at h
        · cases h
        · rename_i n hn
          obtain rfl := Option.some.inj h
          have hne := (numS_some hn).2
          have : stopN (c :: r) ≠ 0 := fun e => by
            rw [e] at hne
            exact itoa_ne n (by rw [← hne]; rfl)
          simp only [List.length_drop, List.length_cons]; omega
/-- What is read reads back. -/
theorem rvL_sound {f : List UInt8 → Option (VT × List UInt8)} {d : Nat} (hf : ∀ s x, f s = some x → s = VT.text x.1 ++ x.2 ∧ VT.chk x.1 d = 0 ∧ VT.Nums x.1) :
    ∀ n items s x, rvL f n items s = some x → ∃ new : List VT, x.1 = items ++ new ∧ s = (if items.isEmpty = true then Lib.join (VT.texts new) [32] else Lib.joinTail [32] (VT.texts new)) ++ 41 :: x.2 ∧ ∀ y ∈ new, VT.chk y d = 0 ∧ VT.Nums y := by
  intro n
  induction n with
  | zero => intro items s x h; cases h
  | succ n ih =>
    intro items s x h
    cases s with
    | nil => cases h
    | cons c r =>
      unfold rvL at h
      split at h
      · rename_i hc
        obtain rfl := Option.some.inj h
        refine ⟨[], by simp, ?_, by simp⟩
        subst hc
        simp [VT.texts, Lib.join_nil, Lib.joinTail]
      · split at h
        · rename_i hi
          split at h
          · rename_i hc
            split at h
            · cases h
            · rename_i y hy
              obtain ⟨h1, h2, h3⟩ := hf _ _ hy
              obtain ⟨new, e1, e2, e3⟩ := ih _ _ _ h
              refine ⟨y.1 :: new, by rw [e1]; simp, ?_, ?_⟩
              · rw [if_neg (by simp)] at e2
                rw [if_neg (by rw [hi]; decide), hc, h1, e2]
                simp [VT.texts, Lib.joinTail]
              · intro z hz
                rcases List.mem_cons.1 hz with rfl | hz
                · exact ⟨h2, h3⟩
                · exact e3 z hz
          · cases h
        · rename_i hi
          have hi' : items.isEmpty = true := by simpa using hi
          split at h
          · cases h
          · rename_i y hy
            obtain ⟨h1, h2, h3⟩ := hf _ _ hy
            obtain ⟨new, e1, e2, e3⟩ := ih _ _ _ h
            refine ⟨y.1 :: new, by rw [e1]; simp, ?_, ?_⟩
            · rw [if_neg (by simp)] at e2
              rw [if_pos hi', h1, e2]
              simp [VT.texts, Lib.join_cons]
            · intro z hz
              rcases List.mem_cons.1 hz with rfl | hz
              · exact ⟨h2, h3⟩
              · exact e3 z hz
theorem rvA_sound : ∀ d, d ≤ 6 → ∀ s x, rvA d s = some x → s = VT.text x.1 ++ x.2 ∧ VT.chk x.1 (6 - d) = 0 ∧ VT.Nums x.1 := by
  intro d
  induction d with
  | zero => intro _ s x h; cases h
  | succ d ih =>
    intro hd s x h
    cases s with
    | nil => cases h
    | cons c r =>
      unfold rvA at h
      split at h
      · rename_i hc
        split at h
        · cases h
        · rename_i y hy
          obtain rfl := Option.some.inj h
          obtain ⟨new, e1, e2, e3⟩ := rvL_sound (ih (by omega)) _ _ _ _ hy
          rw [List.nil_append] at e1
          rw [if_pos (by rfl)] at e2
          refine ⟨?_, ?_, ?_⟩
          · subst hc
            rw [e1, e2]
            simp [VT.text]
          · unfold VT.chk
            rw [if_neg (by simp), if_neg (by omega), VT.chkL_zero, show 6 - (d + 1) + 1 = 6 - d by omega]
            intro z hz
            rw [e1] at hz
            exact (e3 z hz).1
          · refine ⟨⟨by decide, by decide⟩, (VT.numsL_mem _).2 fun z hz => ?_⟩
            rw [e1] at hz
            exact (e3 z hz).2
      · split at h
        · cases h
        · rename_i n hn
          obtain rfl := Option.some.inj h
          obtain ⟨h1, h2⟩ := numS_some hn
          refine ⟨?_, ?_, h1, trivial⟩
          · have : VT.text (.mk false n []) = (c :: r).take (stopN (c :: r)) := by rw [h2]; simp [VT.text]
            rw [this, List.take_append_drop]
          · unfold VT.chk
            rw [if_neg (by simp), if_neg (by omega)]
            rfl
theorem stopN_app (a r : List UInt8) (ha : ∀ c ∈ a, c ≠ 32 ∧ c ≠ 41) (hr : Stops r) : stopN (a ++ r) = a.length := by
  induction a with
  | nil =>
    rcases hr with rfl | ⟨c, t, rfl, hc⟩
    · rfl
    · simp [stopN, hc]
  | cons b a ih =>
    have h1 := ha b (by simp)
    rw [List.cons_append, stopN, if_neg (by rintro (h | h); exact h1.1 h; exact h1.2 h), ih (fun c hc => ha c (by simp [hc]))]
    simp
/-- What is right is read off its text. -/
theorem rvA_text (v : VT) : ∀ d, VT.chk v d = 0 → VT.Nums v → ∀ r, Stops r → rvA (6 - d) (VT.text v ++ r) = some (v, r) := by
  induction v using VT.ind with
  | h l n s ih =>
    intro d hc hn r hr
    unfold VT.chk at hc
    split at hc
    · omega
    rename_i hf
    split at hc
    · omega
    rename_i hd
    obtain ⟨d7, hd7⟩ : ∃ k, 6 - d = k + 1 := ⟨5 - d, by omega⟩
    have hd8 : 6 - (d + 1) = d7 := by omega
    cases l with
    | false =>
      have hs : s = [] := by
        have : ¬ s.length ≠ 0 := fun e => hf (.inr ⟨rfl, e⟩)
        exact List.length_eq_zero_iff.1 (by omega)
      subst hs
      have hno : ∀ c ∈ Lib.itoa n, c ≠ 32 ∧ c ≠ 41 := fun c hc => by
        have := itoa_bytes n c hc
        constructor <;> (intro e; subst e; simp at this)
      have hct := stopN_app (Lib.itoa n) r hno hr
      obtain ⟨c, u, hcu⟩ : ∃ c u, Lib.itoa n = c :: u := by
        cases h : Lib.itoa n with
        | nil => exact absurd h (itoa_ne n)
        | cons c t => exact ⟨c, t, rfl⟩
      have h40 : ¬ c = 40 := fun e => by
        have := itoa_bytes n c (by rw [hcu]; simp)
        subst e; simp at this
      have e : VT.text (.mk false n []) = Lib.itoa n := by simp [VT.text]
      have hni := numS_itoa hn.1
      rw [e, hd7]
      rw [hcu] at hct hni ⊢
      rw [List.cons_append] at hct ⊢
      unfold rvA
      rw [if_neg h40, hct]
      have e1 : (c :: (u ++ r)).take (c :: u).length = c :: u := by rw [← List.cons_append]; simp
      have e2 : (c :: (u ++ r)).drop (c :: u).length = r := by rw [← List.cons_append]; simp
      rw [e1, e2, hni]
    | true =>
      have hn0 : n = 0 := by
        rcases Classical.em (n = 0) with h | h
        · exact h
        · exact absurd (.inl ⟨rfl, h⟩) hf
      subst hn0
      have hcs := (VT.chkL_zero s (d + 1)).1 hc
      have hns := (VT.numsL_mem s).1 hn.2
      have e : VT.text (.mk true 0 s) = 40 :: (Lib.join (VT.texts s) [32] ++ [41]) := by simp [VT.text]
      have key : ∀ (t items : List VT) (k : Nat), t.length + 1 ≤ k → (∀ x ∈ t, x ∈ s) → items.isEmpty = false → rvL (rvA d7) k items (Lib.joinTail [32] (VT.texts t) ++ 41 :: r) = some (items ++ t, r) := by
        intro t
        induction t with
        | nil =>
          intro items k hk _ _
          obtain ⟨k, rfl⟩ : ∃ j, k = j + 1 := ⟨k - 1, by omega⟩
          simp [rvL, VT.texts, Lib.joinTail]
        | cons x t iht =>
          intro items k hk hm hi
          obtain ⟨k, rfl⟩ : ∃ j, k = j + 1 := ⟨k - 1, by omega⟩
          have ej : Lib.joinTail [32] (VT.texts (x :: t)) ++ 41 :: r = 32 :: (VT.text x ++ (Lib.joinTail [32] (VT.texts t) ++ 41 :: r)) := by simp [VT.texts, Lib.joinTail]
          have hst : Stops (Lib.joinTail [32] (VT.texts t) ++ 41 :: r) := by
            cases t with
            | nil => exact .inr ⟨41, r, by simp [VT.texts, Lib.joinTail], .inr rfl⟩
            | cons y t => exact .inr ⟨32, _, by simp [VT.texts, Lib.joinTail]; rfl, .inl rfl⟩
          have hx := ih x (hm x (by simp)) (d + 1) (hcs x (hm x (by simp))) (hns x (hm x (by simp))) _ hst
          rw [hd8] at hx
          rw [ej]
          unfold rvL
          rw [if_neg (by decide), if_pos hi, if_pos rfl, hx]
          dsimp only
          rw [iht (items ++ [x]) k (by simp at hk; omega) (fun y hy => hm y (by simp [hy])) (by simp)]
          simp
      rw [e, hd7, List.cons_append]
      unfold rvA
      rw [if_pos rfl]
      have hl : rvL (rvA d7) ((Lib.join (VT.texts s) [32] ++ [41] ++ r).length + 1) [] (Lib.join (VT.texts s) [32] ++ [41] ++ r) = some (s, r) := by
        have hlen : s.length + 1 ≤ (Lib.join (VT.texts s) [32] ++ [41] ++ r).length + 1 := by
          have : ∀ t : List VT, t.length ≤ (Lib.joinTail [32] (VT.texts t)).length := by
            intro t
            induction t with
            | nil => simp
            | cons x t ih => simp only [VT.texts, Lib.joinTail, List.map_cons, List.flatten_cons, List.length_append, List.length_cons] at ih ⊢; omega
          cases s with
          | nil => simp
          | cons x t =>
            have h1 := this t
            obtain ⟨c, u, hcu, _⟩ := text_head x
            simp only [VT.texts, Lib.join_cons, hcu, List.length_cons, List.length_append] at h1 ⊢
            omega
        generalize (Lib.join (VT.texts s) [32] ++ [41] ++ r).length + 1 = k at hlen ⊢
        obtain ⟨k, rfl⟩ : ∃ j, k = j + 1 := ⟨k - 1, by omega⟩
        cases s with
        | nil => simp [rvL, VT.texts, Lib.join_nil]
        | cons x t =>
          have hst : Stops (Lib.joinTail [32] (VT.texts t) ++ 41 :: r) := by
            cases t with
            | nil => exact .inr ⟨41, r, by simp [VT.texts, Lib.joinTail], .inr rfl⟩
            | cons y t => exact .inr ⟨32, _, by simp [VT.texts, Lib.joinTail]; rfl, .inl rfl⟩
          have hx := ih x (by simp) (d + 1) (hcs x (by simp)) (hns x (by simp)) _ hst
          rw [hd8] at hx
          have ej : Lib.join (VT.texts (x :: t)) [32] ++ [41] ++ r = VT.text x ++ (Lib.joinTail [32] (VT.texts t) ++ 41 :: r) := by simp [VT.texts, Lib.join_cons]
          obtain ⟨c, u, hcu, h32, h41⟩ := text_head x
          rw [ej]
          rw [hcu, List.cons_append] at hx ⊢
          unfold rvL
          rw [if_neg h41, if_neg (by simp), hx]
          dsimp only
          rw [List.nil_append, key t [x] k (by simp at hlen; omega) (fun y hy => by simp [hy]) (by simp)]
          simp
      rw [hl]
end Go.Proofs.YtlhdiekibkdiaaaDoor
