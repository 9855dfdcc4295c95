/- The walk through the reference's number of a text. -/
import Derived.Test.YtlhdiekibkdiaaaDoorRDG
namespace Go.Proofs.YtlhdiekibkdiaaaDoor
set_option maxRecDepth 100000
open Go.RowKit
set_option linter.unusedSimpArgs false
set_option linter.unusedVariables false
/-! ### plain -/
def numStep (neg : Bool) (n : Int) (c : UInt8) : Int := if neg then wrap64 (wrap64 (10 * n) - ((c.toNat : Int) - 48)) else wrap64 (wrap64 (10 * n) + ((c.toNat : Int) - 48))
def numF (neg : Bool) (l : List UInt8) : Int := l.foldl (numStep neg) 0
theorem wrap64_in (n : Int) : In64 (wrap64 n) := by unfold In64 wrap64; omega
theorem wrap64_id {n : Int} (h : In64 n) : wrap64 n = n := by unfold In64 at h; unfold wrap64; omega
theorem numF_in (neg : Bool) (l : List UInt8) : In64 (numF neg l) := by
  unfold numF
  have : ∀ (l : List UInt8) n, In64 n → In64 (l.foldl (numStep neg) n) := by
    intro l
    induction l with
    | nil => exact fun n h => h
    | cons c l ih =>
      intro n _
      refine ih _ ?_
      unfold numStep
      split <;> exact wrap64_in _
  exact this l 0 ⟨by decide, by decide⟩
theorem numF_take (neg : Bool) (l : List UInt8) (j : Nat) (h : j < l.length) : numF neg (l.take (j + 1)) = numStep neg (numF neg (l.take j)) l[j] := by
  unfold numF
  rw [List.take_succ_eq_append_getElem h, List.foldl_append]
  rfl
theorem numF_pos (l : List UInt8) : ∀ acc : Nat, DigL l → valF acc l ≤ 9223372036854775807 → l.foldl (numStep false) (acc : Int) = (valF acc l : Nat) := by
  induction l with
  | nil => intro acc _ _; rfl
  | cons c l ih =>
    intro acc hd hv
    have h1 := hd c (by simp)
    have h2 := valF_le l (acc * 10 + (c.toNat - 48))
    have h3 : valF acc (c :: l) = valF (acc * 10 + (c.toNat - 48)) l := rfl
    rw [h3] at hv ⊢
    rw [List.foldl_cons, ← ih _ (fun x hx => hd x (by simp [hx])) hv]
    congr 1
    unfold numStep
    simp only [Bool.false_eq_true, if_false]
    rw [wrap64_id (n := 10 * (acc : Int)) ⟨by omega, by omega⟩, wrap64_id ⟨by omega, by omega⟩]
    omega
theorem numF_neg (l : List UInt8) : ∀ acc : Nat, DigL l → valF acc l ≤ 9223372036854775808 → l.foldl (numStep true) (-(acc : Int)) = -((valF acc l : Nat) : Int) := by
  induction l with
  | nil => intro acc _ _; rfl
  | cons c l ih =>
    intro acc hd hv
    have h1 := hd c (by simp)
    have h2 := valF_le l (acc * 10 + (c.toNat - 48))
    have h3 : valF acc (c :: l) = valF (acc * 10 + (c.toNat - 48)) l := rfl
    rw [h3] at hv ⊢
    rw [List.foldl_cons, ← ih _ (fun x hx => hd x (by simp [hx])) hv]
    congr 1
    unfold numStep
    simp only [if_true]
    rw [wrap64_id (n := 10 * -(acc : Int)) ⟨by omega, by omega⟩, wrap64_id ⟨by omega, by omega⟩]
    omega
/-- A number's text: with no '-', digits alone; else a '-' and digits. -/
theorem itoa_pos_of {s : List UInt8} {m : Int} (hm : In64 m) (h : s = Lib.itoa m) (hs : ∀ r, s ≠ 45 :: r) : DigL s ∧ numF false s = m := by
  subst h
  obtain ⟨h1, h2⟩ := hm
  unfold Lib.itoa at hs ⊢
  split at hs
  · exact absurd rfl (hs _)
  · rename_i h0
    rw [if_neg h0]
    refine ⟨dec_dig _, ?_⟩
    have := numF_pos (Lib.decDigits m.toNat) 0 (dec_dig _) (by rw [dec_val]; omega)
    unfold numF
    rw [dec_val] at this
    rw [show (0 : Int) = ((0 : Nat) : Int) from rfl, this]
    omega
theorem itoa_neg_of {s : List UInt8} {m : Int} (hm : In64 m) (h : (45 : UInt8) :: s = Lib.itoa m) : DigL s ∧ numF true s = m := by
  obtain ⟨h1, h2⟩ := hm
  unfold Lib.itoa at h
  split at h
  · rename_i h0
    obtain ⟨_, rfl⟩ := List.cons.inj h
    refine ⟨dec_dig _, ?_⟩
    have := numF_neg (Lib.decDigits m.natAbs) 0 (dec_dig _) (by rw [dec_val]; omega)
    unfold numF
    rw [dec_val] at this
    rw [show (0 : Int) = -((0 : Nat) : Int) from rfl, this]
    omega
  · have := dec_dig m.toNat 45 (by rw [← h]; simp)
    exact absurd this.1 (by decide)
/-- What NumberOf tells. -/
def NumR (w : World) (s : List UInt8) (e : Ending) (w' : World) : Prop :=
  (∃ n b, e = .returned (.tuple #[.int .i64 n, .bool b]) ∧ In64 n ∧ (b = true → s = Lib.itoa n) ∧ ∀ m, In64 m → s = Lib.itoa m → b = true ∧ n = m) ∧ Below w.heap.size w w'
theorem NumR.no {w : World} {s : List UInt8} {w' : World} (h : ∀ m, In64 m → s ≠ Lib.itoa m) (hb : Below w.heap.size w w') : NumR w s (.returned (.tuple #[.int .i64 0, .bool false])) w' :=
  ⟨⟨0, false, rfl, ⟨by decide, by decide⟩, (fun h => by cases h), fun m hm e => absurd e (h m hm)⟩, hb⟩
theorem NumR.last {w : World} {s : List UInt8} {n : Int} {w' : World} (hn : In64 n) (h : ∀ m, In64 m → s = Lib.itoa m → n = m) (hb : Below w.heap.size w w') : NumR w s (.returned (.tuple #[.int .i64 n, .bool (Lib.itoa n == s)])) w' :=
  ⟨⟨n, _, rfl, hn, (fun h => (by simpa using h : Lib.itoa n = s).symm), fun m hm e => by
    have := h m hm e
    subst this
    exact ⟨by rw [e]; simp, rfl⟩⟩, hb⟩
set_option maxHeartbeats 4000000 in
theorem rnum_nil (w : World) : Calls Tryd.prog 53 #[.string ⟨([] : List UInt8).toArray⟩] w (NumR w []) := by
  have CD := Lib.hid (rdig_any 0 ⟨by decide, by decide⟩ w)
  have HI : Hid (∀ m, In64 m → [] = Lib.itoa m → (0 : Int) = m) := fun m _ e => absurd e.symm (itoa_ne m)
  go_enter Tryd.func53, Tryd.ntmps53
  go_wp2_with fail
  go_loopw [4, 6] (fun n i wr => n = .int .i64 0 ∧ i = .int .i64 0 ∧ wr = w) (fun _ _ _ => 0)
  case atStart => exact ⟨rfl, rfl, rfl⟩
  case round =>
    obtain ⟨rfl, rfl, rfl⟩ := hrel
    go_wp2_with fail
    refine CD.out.mono ?_
    rintro e w1 ⟨rfl, hb⟩
    go_wp2_with fail
    refine bodyPost_ret (v := .tuple #[.int .i64 (0), .bool (Lib.itoa 0 == [])]) (by simp [results, Tryd.results53, go_sem]) rfl ?_
    exact NumR.last ⟨by decide, by decide⟩ HI.out hb
set_option maxHeartbeats 4000000 in
theorem rnum_pos (c : UInt8) (s' s : List UInt8) (hsc : s = c :: s') (hc : c ≠ 45) (hs : s.length ≤ 20) (w : World) : Calls Tryd.prog 53 #[.string ⟨s.toArray⟩] w (NumR w s) := by
  have HI := Lib.hid (fun m hm h => itoa_pos_of (s := s) (m := m) hm h (fun r e => hc (by rw [hsc] at e; exact (List.cons.inj e).1)))
  have q0 : ¬ (20 : Int) < (s.length : Int) := by omega
  have q1 : 0 < s.length := by rw [hsc]; simp
  have k0 : ∀ h, (⟨s.toArray⟩ : ByteArray)[0]'h = c := by intro h; subst hsc; rfl
  have q2 : ((c.toNat : Int) == 45) = false := by
    have : c.toNat ≠ 45 := fun e => hc (UInt8.toNat_inj.1 e)
    simp; omega
  clear hsc hc
  go_enter Tryd.func53, Tryd.ntmps53
  go_wp2_with fail
  go_loopw [4, 6] (fun n i wr => ∃ j : Nat, j ≤ s.length ∧ n = .int .i64 (numF false (s.take j)) ∧ i = .int .i64 ((j : Int)) ∧ wr = w ∧ Hid (DigL (s.take j))) (fun _ i _ => s.length + 1 - (intOf i).toNat)
  case atStart => exact ⟨0, by omega, rfl, rfl, rfl, fun c hc => by simp at hc⟩
  case round =>
    obtain ⟨j, hj, rfl, rfl, rfl, HD⟩ := hrel
    by_cases hlt : j < s.length
    · obtain ⟨x, hx⟩ : ∃ x, x = s[j] := ⟨_, rfl⟩
      have HX := Lib.hid hx
      have hin : x ∈ s := by rw [hx]; exact List.getElem_mem hlt
      have kb : ∀ h, (⟨(s).toArray⟩ : ByteArray)[j]'h = x := by intro h; rw [hx]; rfl
      have HN := Lib.hid (numF_take false s j hlt)
      have p0 : (0 : Int) ≤ (j : Int) := by omega
      have p1 : (j : Int) < ((s).length : Int) := by first | omega | (simp only [List.length_cons]; omega)
      by_cases hg : 48 ≤ x.toNat ∧ x.toNat ≤ 57
      · obtain ⟨g1, g2⟩ := hg
        have HD2 : Hid (DigL (s.take (j + 1))) := fun c hc => by
          rw [List.take_succ_eq_append_getElem hlt, ← HX.out] at hc
          rcases List.mem_append.1 hc with hc | hc
          · exact HD.out c hc
          · obtain rfl : c = x := by simpa using hc
            exact ⟨g1, g2⟩
        have q1 : ¬ (x.toNat : Int) < 48 := by omega
        have q2 : ¬ (57 : Int) < (x.toNat : Int) := by omega
        have q3 : IntKind.u8.wrap ((x.toNat : Int) - 48) = (x.toNat : Int) - 48 := by simp [IntKind.wrap, IntKind.bits, IntKind.signed]; omega
        have q4 : IntKind.i64.wrap ((x.toNat : Int) - 48) = (x.toNat : Int) - 48 := by rw [IntKind.wrap_i64]; omega
        rw [← HX.out] at HN
        have HN2 : Hid (numF false (s.take (j + 1)) = wrap64 (wrap64 (10 * numF false (s.take j)) + ((x.toNat : Int) - 48))) := by
          show _ = _
          rw [HN.out]
          simp [numStep]
        clear HN hin hx
        generalize numF false (s.take j) = nn at *
        go_wp2_with fail
        exact ⟨⟨j + 1, by omega, by rw [HN2.out], by go_num, trivial, HD2⟩, by simp [intOf]; omega⟩
      · have HF : Hid (∀ m, In64 m → s ≠ Lib.itoa m) := fun m hm e => hg ((HI.out m hm e).1 x hin)
        clear HN hin hx HD
        generalize numF false (s.take j) = nn at *
        by_cases g1 : 48 ≤ x.toNat
        · have g2 : ¬ x.toNat ≤ 57 := fun h => hg ⟨g1, h⟩
          clear hg
          have q1 : ¬ (x.toNat : Int) < 48 := by omega
          have q2 : (57 : Int) < (x.toNat : Int) := by omega
          go_wp2_with fail
          refine bodyPost_ret (v := .tuple #[.int .i64 (0), .bool (false)]) (by simp [results, Tryd.results53, go_sem]) rfl ?_
          exact NumR.no HF.out (Below.refl _ _)
        · clear hg
          have q1 : (x.toNat : Int) < 48 := by omega
          go_wp2_with fail
          refine bodyPost_ret (v := .tuple #[.int .i64 (0), .bool (false)]) (by simp [results, Tryd.results53, go_sem]) rfl ?_
          exact NumR.no HF.out (Below.refl _ _)
    · have hj' : j = s.length := by omega
      rw [hj', List.take_length]
      have HF : Hid (∀ m, In64 m → s = Lib.itoa m → numF false s = m) := fun m hm e => (HI.out m hm e).2
      have HM := Lib.hid (numF_in false s)
      have CD := Lib.hid (rdig_any (numF false s) (numF_in _ _) wr)
      have p1 : ¬ (s.length : Int) < ((s).length : Int) := by first | omega | (simp only [List.length_cons]; omega)
      clear hlt hj HD
      generalize numF false s = nn at *
      go_wp2_with fail
      refine CD.out.mono ?_
      rintro e w1 ⟨rfl, hb⟩
      go_wp2_with fail
      refine bodyPost_ret (v := .tuple #[.int .i64 (nn), .bool (Lib.itoa nn == s)]) (by simp [results, Tryd.results53, go_sem]) rfl ?_
      exact NumR.last HM.out HF.out hb
set_option maxHeartbeats 4000000 in
theorem rnum_neg (r : List UInt8) (hs : ((45 : UInt8) :: r).length ≤ 20) (w : World) : Calls Tryd.prog 53 #[.string ⟨((45 : UInt8) :: r).toArray⟩] w (NumR w (45 :: r)) := by
  have HI := Lib.hid (fun m hm h => itoa_neg_of (s := r) (m := m) hm h)
  have hs' : r.length ≤ 19 := by simpa using hs
  have q0 : ¬ (20 : Int) < (((45 : UInt8) :: r).length : Int) := by omega
  have k0 : ∀ h, (⟨((45 : UInt8) :: r).toArray⟩ : ByteArray)[0]'h = 45 := by intro h; rfl
  go_enter Tryd.func53, Tryd.ntmps53
  go_wp2_with fail
  go_loopw [4, 6] (fun n i wr => ∃ j : Nat, j ≤ r.length ∧ n = .int .i64 (numF true (r.take j)) ∧ i = .int .i64 ((j : Int) + 1) ∧ wr = w ∧ Hid (DigL (r.take j))) (fun _ i _ => r.length + 1 - (intOf i).toNat)
  case atStart => exact ⟨0, by omega, rfl, rfl, rfl, fun c hc => by simp at hc⟩
  case round =>
    obtain ⟨j, hj, rfl, rfl, rfl, HD⟩ := hrel
    by_cases hlt : j < r.length
    · obtain ⟨x, hx⟩ : ∃ x, x = r[j] := ⟨_, rfl⟩
      have HX := Lib.hid hx
      have hin : x ∈ r := by rw [hx]; exact List.getElem_mem hlt
      have kb : ∀ h, (⟨((45 : UInt8) :: r).toArray⟩ : ByteArray)[j + 1]'h = x := by intro h; rw [hx]; rfl
      have HN := Lib.hid (numF_take true r j hlt)
      have p0 : (0 : Int) ≤ (j : Int) + 1 := by omega
      have p1 : (j : Int) + 1 < (((45 : UInt8) :: r).length : Int) := by first | omega | (simp only [List.length_cons]; omega)
      by_cases hg : 48 ≤ x.toNat ∧ x.toNat ≤ 57
      · obtain ⟨g1, g2⟩ := hg
        have HD2 : Hid (DigL (r.take (j + 1))) := fun c hc => by
          rw [List.take_succ_eq_append_getElem hlt, ← HX.out] at hc
          rcases List.mem_append.1 hc with hc | hc
          · exact HD.out c hc
          · obtain rfl : c = x := by simpa using hc
            exact ⟨g1, g2⟩
        have q1 : ¬ (x.toNat : Int) < 48 := by omega
        have q2 : ¬ (57 : Int) < (x.toNat : Int) := by omega
        have q3 : IntKind.u8.wrap ((x.toNat : Int) - 48) = (x.toNat : Int) - 48 := by simp [IntKind.wrap, IntKind.bits, IntKind.signed]; omega
        have q4 : IntKind.i64.wrap ((x.toNat : Int) - 48) = (x.toNat : Int) - 48 := by rw [IntKind.wrap_i64]; omega
        rw [← HX.out] at HN
        have HN2 : Hid (numF true (r.take (j + 1)) = wrap64 (wrap64 (10 * numF true (r.take j)) - ((x.toNat : Int) - 48))) := by
          show _ = _
          rw [HN.out]
          simp [numStep]
        clear HN hin hx
        generalize numF true (r.take j) = nn at *
        go_wp2_with fail
        exact ⟨⟨j + 1, by omega, by rw [HN2.out], by go_num, trivial, HD2⟩, by simp [intOf]; omega⟩
      · have HF : Hid (∀ m, In64 m → (45 : UInt8) :: r ≠ Lib.itoa m) := fun m hm e => hg ((HI.out m hm e).1 x hin)
        clear HN hin hx HD
        generalize numF true (r.take j) = nn at *
        by_cases g1 : 48 ≤ x.toNat
        · have g2 : ¬ x.toNat ≤ 57 := fun h => hg ⟨g1, h⟩
          clear hg
          have q1 : ¬ (x.toNat : Int) < 48 := by omega
          have q2 : (57 : Int) < (x.toNat : Int) := by omega
          go_wp2_with fail
          refine bodyPost_ret (v := .tuple #[.int .i64 (0), .bool (false)]) (by simp [results, Tryd.results53, go_sem]) rfl ?_
          exact NumR.no HF.out (Below.refl _ _)
        · clear hg
          have q1 : (x.toNat : Int) < 48 := by omega
          go_wp2_with fail
          refine bodyPost_ret (v := .tuple #[.int .i64 (0), .bool (false)]) (by simp [results, Tryd.results53, go_sem]) rfl ?_
          exact NumR.no HF.out (Below.refl _ _)
    · have hj' : j = r.length := by omega
      rw [hj', List.take_length]
      have HF : Hid (∀ m, In64 m → (45 : UInt8) :: r = Lib.itoa m → numF true r = m) := fun m hm e => (HI.out m hm e).2
      have HM := Lib.hid (numF_in true r)
      have CD := Lib.hid (rdig_any (numF true r) (numF_in _ _) wr)
      have p1 : ¬ (r.length : Int) + 1 < (((45 : UInt8) :: r).length : Int) := by first | omega | (simp only [List.length_cons]; omega)
      clear hlt hj HD
      generalize numF true r = nn at *
      go_wp2_with fail
      refine CD.out.mono ?_
      rintro e w1 ⟨rfl, hb⟩
      go_wp2_with fail
      refine bodyPost_ret (v := .tuple #[.int .i64 (nn), .bool (Lib.itoa nn == (45 : UInt8) :: r)]) (by simp [results, Tryd.results53, go_sem]) rfl ?_
      exact NumR.last HM.out HF.out hb
theorem rnum_any (s : List UInt8) (hs : s.length ≤ 1000000000) (w : World) : Calls Tryd.prog 53 #[.string ⟨s.toArray⟩] w (NumR w s) := by
  by_cases h20 : s.length ≤ 20
  · match s, h20 with
    | [], _ => exact rnum_nil w
    | c :: r, h20 =>
      by_cases hc : c = 45
      · subst hc; exact rnum_neg r h20 w
      · exact rnum_pos c r _ rfl hc h20 w
  · have HF : Hid (∀ m, In64 m → s ≠ Lib.itoa m) := fun m hm e => h20 (by rw [e]; exact itoa_len m hm)
    have q0 : (20 : Int) < (s.length : Int) := by omega
    clear h20
    go_enter Tryd.func53, Tryd.ntmps53
    go_wp2_with fail
    refine bodyPost_ret (v := .tuple #[.int .i64 (0), .bool (false)]) (by simp [results, Tryd.results53, go_sem]) rfl ?_
    exact NumR.no HF.out (Below.refl _ _)
end Go.Proofs.YtlhdiekibkdiaaaDoor
