/- Plain laws of texts: a number's digits and back; a value's text; what a reader of values makes of a text. No program in sight. -/
import Derived.Test.YtlhdiekibkdiaaaDoorPVT
import Derived.Lib.AtoiAll
import Derived.Lib.ItoaNum
import Derived.Lib.Join
import Derived.Lib.IndexAny
import Derived.Lib.Strings
namespace Go.Proofs.YtlhdiekibkdiaaaDoor
set_option maxRecDepth 100000
open Go.RowKit
set_option linter.unusedSimpArgs false
set_option linter.unusedVariables false
/-! ### numbers -/
def valF (acc : Nat) (l : List UInt8) : Nat := l.foldl (fun a c => a * 10 + (c.toNat - 48)) acc
theorem valF_le (l : List UInt8) : ∀ acc, acc ≤ valF acc l := by
  induction l with
  | nil => intro acc; exact Nat.le_refl _
  | cons c l ih => intro acc; have := ih (acc * 10 + (c.toNat - 48)); simp only [valF, List.foldl_cons] at this ⊢; omega
def DigL (l : List UInt8) : Prop := ∀ c ∈ l, 48 ≤ c.toNat ∧ c.toNat ≤ 57
theorem pu_ok (l : List UInt8) : ∀ acc, DigL l → valF acc l < 18446744073709551616 → Lib.parseUint10 acc l = .ok (valF acc l) := by
  induction l with
  | nil => intro acc _ _; rfl
  | cons c l ih =>
    intro acc hd hv
    have h1 := hd c (by simp)
    have h2 := valF_le l (acc * 10 + (c.toNat - 48))
    have h3 : valF acc (c :: l) = valF (acc * 10 + (c.toNat - 48)) l := rfl
    rw [h3] at hv ⊢
    simp only [Lib.parseUint10]
    rw [if_pos h1, if_neg (by omega), if_neg (by omega)]
    exact ih _ (fun x hx => hd x (by simp [hx])) hv
theorem digit_toNat {d : Nat} (h : d < 10) : (UInt8.ofNat (48 + d)).toNat = 48 + d := by
  rw [UInt8.toNat_ofNat']; omega
theorem dec_dig (u : Nat) : DigL (Lib.decDigits u) := by
  induction u using Nat.strongRecOn with
  | _ u ih =>
    unfold Lib.decDigits
    split
    · rename_i h
      intro c hc
      rw [List.mem_singleton.1 hc, digit_toNat h]; omega
    · rename_i h
      intro c hc
      rcases List.mem_append.1 hc with hc | hc
      · exact ih (u / 10) (by omega) c hc
      · rw [List.mem_singleton.1 hc, digit_toNat (by omega)]; omega
theorem dec_val (u : Nat) : valF 0 (Lib.decDigits u) = u := by
  induction u using Nat.strongRecOn with
  | _ u ih =>
    unfold Lib.decDigits
    split
    · rename_i h
      simp only [valF, List.foldl_cons, List.foldl_nil, digit_toNat h]; omega
    · rename_i h
      have h2 := ih (u / 10) (by omega)
      simp only [valF] at h2 ⊢
      rw [List.foldl_append, h2]
      simp only [List.foldl_cons, List.foldl_nil]
      rw [digit_toNat (by omega)]; omega
theorem dec_ne (u : Nat) : Lib.decDigits u ≠ [] := by
  unfold Lib.decDigits
  split <;> simp
theorem dec_len (u : Nat) : ∀ k, 1 ≤ k → u < 10 ^ k → (Lib.decDigits u).length ≤ k := by
  induction u using Nat.strongRecOn with
  | _ u ih =>
    intro k hk hu
    unfold Lib.decDigits
    split
    · simpa using hk
    · rename_i h
      have hk2 : 2 ≤ k := by
        rcases Nat.lt_or_ge k 2 with h2 | h2
        · have : k = 1 := by omega
          subst this; simp at hu; omega
        · exact h2
      have h3 := ih (u / 10) (by omega) (k - 1) (by omega) (by
        have : k = (k - 1) + 1 := by omega
        rw [this, Nat.pow_succ] at hu
        exact (Nat.div_lt_iff_lt_mul (by decide)).2 hu)
      rw [List.length_append]; simp only [List.length_singleton]; omega
/-- A byte that no number has. -/
theorem itoa_bytes (n : Int) : ∀ c ∈ Lib.itoa n, c.toNat = 45 ∨ (48 ≤ c.toNat ∧ c.toNat ≤ 57) := by
  intro c hc
  unfold Lib.itoa at hc
  split at hc
  · rcases List.mem_cons.1 hc with rfl | hc
    · exact .inl rfl
    · exact .inr (dec_dig _ c hc)
  · exact .inr (dec_dig _ c hc)
theorem itoa_ne (n : Int) : Lib.itoa n ≠ [] := by
  unfold Lib.itoa
  split
  · simp
  · exact dec_ne _
theorem itoa_len (n : Int) (h : In64 n) : (Lib.itoa n).length ≤ 20 := by
  obtain ⟨h1, h2⟩ := h
  unfold Lib.itoa
  split
  · have := dec_len n.natAbs 19 (by omega) (by omega)
    simp only [List.length_cons]; omega
  · have := dec_len n.toNat 19 (by omega) (by omega)
    omega
theorem atoi_itoa (n : Int) (h : In64 n) : Lib.atoiAll (Lib.itoa n) = .ok n := by
  obtain ⟨h1, h2⟩ := h
  unfold Lib.itoa
  split
  · rename_i hn
    have h3 : Lib.parseMag (Lib.decDigits n.natAbs) = .ok n.natAbs := by
      unfold Lib.parseMag
      rw [if_neg (dec_ne _), pu_ok _ _ (dec_dig _) (by rw [dec_val]; omega), dec_val]
    have e : (45 : UInt8).toNat = 45 := rfl
    simp only [Lib.atoiAll, e, or_true, if_true, h3, not_true_eq_false, false_and, if_false, true_and]
    rw [if_neg (by omega)]
    congr 1; omega
  · rename_i hn
    have h3 : Lib.parseMag (Lib.decDigits n.toNat) = .ok n.toNat := by
      unfold Lib.parseMag
      rw [if_neg (dec_ne _), pu_ok _ _ (dec_dig _) (by rw [dec_val]; omega), dec_val]
    obtain ⟨c, r, hc⟩ : ∃ c r, Lib.decDigits n.toNat = c :: r := by
      cases h : Lib.decDigits n.toNat with
      | nil => exact absurd h (dec_ne _)
      | cons c r => exact ⟨c, r, rfl⟩
    have hd := dec_dig n.toNat c (by rw [hc]; simp)
    have c1 : ¬ (c.toNat = 43 ∨ c.toNat = 45) := by omega
    have c2 : ¬ c.toNat = 45 := by omega
    rw [hc] at h3 ⊢
    have c3 : ¬ (¬ c.toNat = 45 ∧ 9223372036854775808 ≤ n.toNat) := by omega
    have c4 : ¬ (c.toNat = 45 ∧ 9223372036854775808 < n.toNat) := by omega
    have c5 : (n.toNat : Int) = n := by omega
    unfold Lib.atoiAll
    dsimp only
    rw [if_neg c1, h3]
    dsimp only
    rw [if_neg c3, if_neg c4, if_neg c2, c5]
theorem itoa_inj {n m : Int} (hn : In64 n) (hm : In64 m) (h : Lib.itoa n = Lib.itoa m) : n = m := by
  have h1 := atoi_itoa n hn
  rw [h, atoi_itoa m hm] at h1
  exact (Lib.NumEnd.ok.inj h1).symm
/-! ### values -/
namespace VT
mutual
def text : VT → List UInt8
  | .mk l n s => if l = true then 40 :: (Lib.join (texts s) [32] ++ [41]) else Lib.itoa n
def texts : List VT → List (List UInt8)
  | [] => []
  | x :: s => text x :: texts s
end
theorem texts_map (s : List VT) : texts s = s.map text := by
  induction s with
  | nil => rfl
  | cons x s ih => simp [texts, ih]
mutual
/-- Its numbers have 64 bits. -/
def Nums : VT → Prop
  | .mk _ n s => In64 n ∧ NumsL s
def NumsL : List VT → Prop
  | [] => True
  | x :: s => Nums x ∧ NumsL s
end
theorem numsL_mem (s : List VT) : NumsL s ↔ ∀ x ∈ s, Nums x := by
  induction s with
  | nil => simp [NumsL]
  | cons x s ih => simp [NumsL, ih]
end VT
theorem ValIn.nums {S : Nat → Prop} {w : World} {v : Value} {t : VT} (h : ValIn S w v t) : VT.Nums t := by
  induction h with
  | mk hn hl hm vs cells kids ih =>
    refine ⟨hn, (VT.numsL_mem _).2 fun x hx => ?_⟩
    obtain ⟨i, hi, rfl⟩ := List.getElem_of_mem hx
    exact ih i hi
/-! ### the reader -/
def cutN (s : List UInt8) : Nat := if Lib.indexAny s [32, 41] < 0 then s.length else (Lib.indexAny s [32, 41]).toNat
def numR (l : List UInt8) : Int := match Lib.atoiAll l with | .ok n => n | .range => Lib.atoiSat l | _ => 0
def numOk (l : List UInt8) : Bool := match Lib.atoiAll l with | .ok _ => true | _ => false
/-- Where the next item begins. -/
def nxt (items : List VT) (s : List UInt8) : List UInt8 := if items.isEmpty = true then s else s.drop 1
theorem nxt_le (items : List VT) (s : List UInt8) : (nxt items s).length ≤ s.length := by unfold nxt; split <;> simp
/-- The items up to the list's end, by what reads one; so many rounds at most. -/
def rdL (f : List UInt8 → VT × Bool × List UInt8) : Nat → List VT → List UInt8 → List VT × Bool × List UInt8
  | 0, items, s => (items, false, s)
  | n + 1, items, s =>
    if Lib.hasPrefix s [41] = true then (items, true, s.drop 1)
    else if items.isEmpty = false ∧ Lib.hasPrefix s [32] = false then (items, false, s)
    else if (f (nxt items s)).2.1 = true then rdL f n (items ++ [(f (nxt items s)).1]) (f (nxt items s)).2.2
    else (items, false, (f (nxt items s)).2.2)
def rdV : Nat → List UInt8 → VT × Bool × List UInt8
  | 0, s => (.mk false 0 [], false, s)
  | d + 1, s =>
    if Lib.hasPrefix s [40] = true then
      (.mk true 0 (rdL (rdV d) (s.length + 1) [] (s.drop 1)).1, (rdL (rdV d) (s.length + 1) [] (s.drop 1)).2.1, (rdL (rdV d) (s.length + 1) [] (s.drop 1)).2.2)
    else (.mk false (numR (s.take (cutN s))) [], numOk (s.take (cutN s)), s.drop (cutN s))
theorem cutN_le (s : List UInt8) : cutN s ≤ s.length := by
  unfold cutN
  split
  · exact Nat.le_refl _
  · rename_i h
    have : ∀ l : List UInt8, Lib.indexAny l [32, 41] ≤ l.length := by
      intro l
      induction l with
      | nil => decide
      | cons b l ih =>
        unfold Lib.indexAny
        simp only [List.length_cons]
        split
        · omega
        · split <;> omega
    have := this s
    omega
theorem hasPrefix_one (s : List UInt8) (c : UInt8) : Lib.hasPrefix s [c] = true ↔ ∃ r, s = c :: r := by
  cases s with
  | nil => simp [Lib.hasPrefix]
  | cons b r =>
    have e : Lib.hasPrefix (b :: r) [c] = (c == b) := by simp [Lib.hasPrefix, List.isPrefixOf]
    rw [e]
    constructor
    · intro h; exact ⟨r, by rw [eq_of_beq h]⟩
    · rintro ⟨t, h⟩; rw [(List.cons.inj h).1]; simp
/-- What is read is not longer; a value that is right has taken something. -/
def Takes (f : List UInt8 → VT × Bool × List UInt8) : Prop := ∀ s, (f s).2.2.length ≤ s.length ∧ ((f s).2.1 = true → (f s).2.2.length < s.length)
theorem rdL_le (f : List UInt8 → VT × Bool × List UInt8) (hf : Takes f) : ∀ (n : Nat) (items : List VT) (s : List UInt8), (rdL f n items s).2.2.length ≤ s.length := by
  intro n
  induction n with
  | zero => intro items s; exact Nat.le_refl _
  | succ n ih =>
    intro items s
    have hd := nxt_le items s
    have h1 := hf (nxt items s)
    unfold rdL
    split
    · simp
    · split
      · exact Nat.le_refl _
      · split
        · exact Nat.le_trans (ih _ _) (Nat.le_trans h1.1 hd)
        · exact Nat.le_trans h1.1 hd
theorem numOk_ne {l : List UInt8} (h : numOk l = true) : l ≠ [] := by
  intro e
  subst e
  simp [numOk, Lib.atoiAll] at h
theorem rdV_takes : ∀ d, Takes (rdV d) := by
  intro d
  induction d with
  | zero => intro s; exact ⟨Nat.le_refl _, fun h => by simp [rdV] at h⟩
  | succ d ih =>
    intro s
    unfold rdV
    split
    · rename_i h
      obtain ⟨r, rfl⟩ := (hasPrefix_one s 40).1 h
      have := rdL_le (rdV d) ih ((40 :: r).length + 1) [] ((40 :: r).drop 1)
      simp only [List.drop_succ_cons, List.drop_zero, List.length_cons] at this ⊢
      exact ⟨by omega, fun _ => by omega⟩
    · have h1 := cutN_le s
      refine ⟨by simp, fun h => ?_⟩
      have h2 := numOk_ne h
      have h3 : 0 < cutN s := by
        rcases Nat.eq_zero_or_pos (cutN s) with e | e
        · rw [e] at h2; simp at h2
        · exact e
      simp only [List.length_drop]; omega
/-- What may stand behind a number. -/
def Stops (r : List UInt8) : Prop := r = [] ∨ ∃ c t, r = c :: t ∧ (c = 32 ∨ c = 41)
theorem cutN_app (a r : List UInt8) (ha : ∀ c ∈ a, c ≠ 32 ∧ c ≠ 41) (hr : Stops r) : cutN (a ++ r) = a.length := by
  have hno : ∀ c ∈ a, ([32, 41] : List UInt8).contains c = false := fun c hc => by
    have := ha c hc
    simp [this.1, this.2]
  have key : ∀ a : List UInt8, (∀ c ∈ a, ([32, 41] : List UInt8).contains c = false) → Lib.indexAny (a ++ r) [32, 41] = if r = [] then -1 else (a.length : Int) := by
    intro a
    induction a with
    | nil =>
      intro _
      rcases hr with rfl | ⟨c, t, rfl, hc⟩
      · simp [Lib.indexAny]
      · have : ([32, 41] : List UInt8).contains c = true := by rcases hc with rfl | rfl <;> decide
        rw [List.nil_append, Lib.indexAny, if_pos this]; simp
    | cons b a ih =>
      intro h
      have h1 := ih (fun c hc => h c (by simp [hc]))
      rw [List.cons_append, Lib.indexAny, h b (by simp), h1]
      simp only [Bool.false_eq_true, if_false]
      by_cases e : r = []
      · simp [e]
      · rw [if_neg e, if_neg e, if_neg (by first | (simp; omega) | simp)]; simp
  unfold cutN
  rw [key a hno]
  by_cases e : r = []
  · subst e; simp
  · rw [if_neg e, if_neg (by omega)]; simp
theorem text_head (v : VT) : ∃ c t, VT.text v = c :: t ∧ c ≠ 32 ∧ c ≠ 41 := by
  obtain ⟨l, n, s⟩ := v
  cases l with
  | true => exact ⟨40, Lib.join (VT.texts s) [32] ++ [41], by simp [VT.text], by decide, by decide⟩
  | false =>
    obtain ⟨c, t, hc⟩ : ∃ c t, Lib.itoa n = c :: t := by
      cases h : Lib.itoa n with
      | nil => exact absurd h (itoa_ne n)
      | cons c t => exact ⟨c, t, rfl⟩
    have hb := itoa_bytes n c (by rw [hc]; simp)
    refine ⟨c, t, by simp [VT.text, hc], ?_, ?_⟩ <;> (intro e; subst e; simp at hb)
/-- THERE AND BACK: what is right is read off its text. -/
theorem rdV_text (v : VT) : ∀ d, VT.chk v d = 0 → VT.Nums v → ∀ r, Stops r → rdV (7 - d) (VT.text v ++ r) = (v, true, r) := by
  induction v using VT.ind with
  | h l n s ih =>
    intro d hc hn r hr
    unfold VT.chk at hc
    split at hc
    · omega
    rename_i hf
    split at hc
    · omega
    rename_i hd
    obtain ⟨d7, hd7⟩ : ∃ k, 7 - d = k + 1 := ⟨6 - d, by omega⟩
    have hd8 : 7 - (d + 1) = d7 := by omega
    cases l with
    | false =>
      have hs : s = [] := by
        have : ¬ s.length ≠ 0 := fun e => hf (.inr ⟨rfl, e⟩)
        exact List.length_eq_zero_iff.1 (by omega)
      subst hs
      have hno : ∀ c ∈ Lib.itoa n, c ≠ 32 ∧ c ≠ 41 := fun c hc => by
        have := itoa_bytes n c hc
        constructor <;> (intro e; subst e; simp at this)
      have hct := cutN_app (Lib.itoa n) r hno hr
      have hp : ¬ Lib.hasPrefix (Lib.itoa n ++ r) [40] = true := by
        intro h
        obtain ⟨t, ht⟩ := (hasPrefix_one _ _).1 h
        obtain ⟨c, u, hcu⟩ : ∃ c u, Lib.itoa n = c :: u := by
          cases h : Lib.itoa n with
          | nil => exact absurd h (itoa_ne n)
          | cons c t => exact ⟨c, t, rfl⟩
        rw [hcu] at ht
        have e : c = 40 := (List.cons.inj ht).1
        have := itoa_bytes n c (by rw [hcu]; simp)
        subst e; simp at this
      have e : VT.text (.mk false n []) = Lib.itoa n := by simp [VT.text]
      rw [e, hd7]
      unfold rdV
      rw [if_neg hp, hct]
      have ha := atoi_itoa n hn.1
      simp only [List.take_left', List.drop_left', numR, numOk, ha]
    | true =>
      have hn0 : n = 0 := by
        rcases Classical.em (n = 0) with h | h
        · exact h
        · exact absurd (.inl ⟨rfl, h⟩) hf
      subst hn0
      have hcs := (VT.chkL_zero s (d + 1)).1 hc
      have hns := (VT.numsL_mem s).1 hn.2
      have e : VT.text (.mk true 0 s) = 40 :: (Lib.join (VT.texts s) [32] ++ [41]) := by simp [VT.text]
      -- the rounds
      have key : ∀ (t items : List VT) (k : Nat), t.length + 1 ≤ k → (∀ x ∈ t, x ∈ s) → items.isEmpty = false → rdL (rdV d7) k items (Lib.joinTail [32] (VT.texts t) ++ 41 :: r) = (items ++ t, true, r) := by
        intro t
        induction t with
        | nil =>
          intro items k hk _ _
          obtain ⟨k, rfl⟩ : ∃ j, k = j + 1 := ⟨k - 1, by omega⟩
          simp [rdL, VT.texts, Lib.joinTail, Lib.hasPrefix]
        | cons x t iht =>
          intro items k hk hm hi
          obtain ⟨k, rfl⟩ : ∃ j, k = j + 1 := ⟨k - 1, by omega⟩
          have ej : Lib.joinTail [32] (VT.texts (x :: t)) ++ 41 :: r = 32 :: (VT.text x ++ (Lib.joinTail [32] (VT.texts t) ++ 41 :: r)) := by simp [VT.texts, Lib.joinTail]
          have hst : Stops (Lib.joinTail [32] (VT.texts t) ++ 41 :: r) := by
            cases t with
            | nil => exact .inr ⟨41, r, by simp [VT.texts, Lib.joinTail], .inr rfl⟩
            | cons y t => exact .inr ⟨32, _, by simp [VT.texts, Lib.joinTail]; rfl, .inl rfl⟩
          have hx := ih x (hm x (by simp)) (d + 1) (hcs x (hm x (by simp))) (hns x (hm x (by simp))) _ hst
          rw [hd8] at hx
          rw [ej]
          unfold rdL
          rw [if_neg (by simp [Lib.hasPrefix]), if_neg (by simp [Lib.hasPrefix])]
          have en : nxt items (32 :: (VT.text x ++ (Lib.joinTail [32] (VT.texts t) ++ 41 :: r))) = VT.text x ++ (Lib.joinTail [32] (VT.texts t) ++ 41 :: r) := by simp [nxt, hi]
          simp only [en, hx, if_true]
          rw [iht (items ++ [x]) k (by simp at hk; omega) (fun y hy => hm y (by simp [hy])) (by simp)]
          simp
      rw [e, hd7]
      unfold rdV
      rw [if_pos (by simp [Lib.hasPrefix])]
      have hl : rdL (rdV d7) ((40 :: (Lib.join (VT.texts s) [32] ++ [41]) ++ r).length + 1) [] ((40 :: (Lib.join (VT.texts s) [32] ++ [41]) ++ r).drop 1) = (s, true, r) := by
        have hlen : s.length + 1 ≤ (40 :: (Lib.join (VT.texts s) [32] ++ [41]) ++ r).length := by
          have : ∀ t : List VT, t.length ≤ (Lib.joinTail [32] (VT.texts t)).length := by
            intro t
            induction t with
            | nil => simp
            | cons x t ih => simp only [VT.texts, Lib.joinTail, List.map_cons, List.flatten_cons, List.length_append, List.length_cons] at ih ⊢; omega
          cases s with
          | nil => simp
          | cons x t =>
            have h1 := this t
            obtain ⟨c, u, hcu, _⟩ := text_head x
            simp only [VT.texts, Lib.join_cons, hcu, List.length_cons, List.length_append] at h1 ⊢
            omega
        generalize (40 :: (Lib.join (VT.texts s) [32] ++ [41]) ++ r).length = k at hlen ⊢
        cases s with
        | nil => simp [rdL, VT.texts, Lib.join_nil, Lib.hasPrefix]
        | cons x t =>
          have hst : Stops (Lib.joinTail [32] (VT.texts t) ++ 41 :: r) := by
            cases t with
            | nil => exact .inr ⟨41, r, by simp [VT.texts, Lib.joinTail], .inr rfl⟩
            | cons y t => exact .inr ⟨32, _, by simp [VT.texts, Lib.joinTail]; rfl, .inl rfl⟩
          have hx := ih x (by simp) (d + 1) (hcs x (by simp)) (hns x (by simp)) _ hst
          rw [hd8] at hx
          have ej : (40 :: (Lib.join (VT.texts (x :: t)) [32] ++ [41]) ++ r).drop 1 = VT.text x ++ (Lib.joinTail [32] (VT.texts t) ++ 41 :: r) := by simp [VT.texts, Lib.join_cons]
          obtain ⟨c, u, hcu, h32, h41⟩ := text_head x
          rw [ej]
          unfold rdL
          rw [if_neg (by rw [hcu]; simp [Lib.hasPrefix, Ne.symm h41]), if_neg (by simp)]
          have en : ∀ u : List UInt8, nxt [] u = u := fun u => rfl
          simp only [en, hx, if_true, List.nil_append]
          rw [key t [x] k (by simp at hlen; omega) (fun y hy => by simp [hy]) (by simp)]
          simp
      rw [hl]
theorem text_inj {v u : VT} (hv : VT.chk v 0 = 0) (hu : VT.chk u 0 = 0) (nv : VT.Nums v) (nu : VT.Nums u) (h : VT.text v = VT.text u) : v = u := by
  have h1 := rdV_text v 0 hv nv [] (.inl rfl)
  have h2 := rdV_text u 0 hu nu [] (.inl rfl)
  rw [h, h2] at h1
  exact (Prod.mk.inj h1).1.symm
end Go.Proofs.YtlhdiekibkdiaaaDoor
