/- The walk through expr.told, of every right expression. -/
import Derived.Test.YtcecpggkeaohnaaDoorEX4
namespace Go.Proofs.YtcecpggkeaohnaaDoor
set_option maxRecDepth 100000
open Go.RowKit
set_option linter.unusedSimpArgs false
set_option linter.unusedVariables false
section
variable {n vn : Int} {vl : Bool} {sn scap vk vcap : Nat} {ad vad : Option Addr} {w : World} {r : Option Int}
theorem told_lit : Calls Tryd.prog 36 #[.agg #[.int .i64 1, .int .i64 n, .slice ad sn scap], .agg #[.bool vl, .int .i64 vn, .slice vad vk vcap]] w (Tld (some n) w) := by
  go_enter Tryd.func36, Tryd.ntmps36
  go_wp2_with fail
  go_ret
  exact ⟨rfl, by repeat (first | with_reducible assumption | with_reducible exact Below.refl _ _ | with_reducible apply Below.drew | (with_reducible refine Below.alloc ?_ (by first | omega | (simp only [World.size_alloc, size_setCell, size_drew, size_drewN]; omega) | (dsimp only; omega) | (simp only [World.size_alloc, size_setCell, size_drew, size_drewN]; dsimp only; omega)) _) | (with_reducible refine Below.setCell ?_ (by first | omega | (simp only [World.size_alloc, size_setCell, size_drew, size_drewN]; omega) | (dsimp only; omega) | (simp only [World.size_alloc, size_setCell, size_drew, size_drewN]; dsimp only; omega)) _) | (with_reducible apply below_drewN))⟩
theorem told_len : Calls Tryd.prog 36 #[.agg #[.int .i64 4, .int .i64 n, .slice ad sn scap], .agg #[.bool vl, .int .i64 vn, .slice vad vk vcap]] w (Tld (some (vk : Int)) w) := by
  go_enter Tryd.func36, Tryd.ntmps36
  go_wp2_with fail
  go_ret
  exact ⟨rfl, by repeat (first | with_reducible assumption | with_reducible exact Below.refl _ _ | with_reducible apply Below.drew | (with_reducible refine Below.alloc ?_ (by first | omega | (simp only [World.size_alloc, size_setCell, size_drew, size_drewN]; omega) | (dsimp only; omega) | (simp only [World.size_alloc, size_setCell, size_drew, size_drewN]; dsimp only; omega)) _) | (with_reducible refine Below.setCell ?_ (by first | omega | (simp only [World.size_alloc, size_setCell, size_drew, size_drewN]; omega) | (dsimp only; omega) | (simp only [World.size_alloc, size_setCell, size_drew, size_drewN]; dsimp only; omega)) _) | (with_reducible apply below_drewN))⟩
set_option maxHeartbeats 1000000 in
theorem told_sum {t : VT} (hv : ValAt w (.agg #[.bool vl, .int .i64 vn, .slice vad vk vcap]) t) : Calls Tryd.prog 36 #[.agg #[.int .i64 2, .int .i64 n, .slice ad sn scap], .agg #[.bool vl, .int .i64 vn, .slice vad vk vcap]] w (Tld (some (sumW 0 t.nums)) w) := by
  have HV := Lib.hid (fun W hb hJ => numbers_any (vis_sum (w.heap.size + 1 + 1) (w.heap.size + 1 + 1) (Nat.le_refl _)) w (by omega) t _ 0 W hv hb hJ)
  have HF : Hid (t.nums.foldl (fun n k => wrap64 (n + k)) 0 = sumW 0 t.nums) := sumW_fold _ _
  rw [HF.out] at HV
  clear HF hv
  go_enter Tryd.func36, Tryd.ntmps36
  go_wp2_with fail
  refine (HV.out _ (by repeat (first | with_reducible assumption | with_reducible exact Below.refl _ _ | with_reducible apply Below.drew | (with_reducible refine Below.alloc ?_ (by first | omega | (simp only [World.size_alloc, size_setCell, size_drew, size_drewN]; omega) | (dsimp only; omega) | (simp only [World.size_alloc, size_setCell, size_drew, size_drewN]; dsimp only; omega)) _) | (with_reducible refine Below.setCell ?_ (by first | omega | (simp only [World.size_alloc, size_setCell, size_drew, size_drewN]; omega) | (dsimp only; omega) | (simp only [World.size_alloc, size_setCell, size_drew, size_drewN]; dsimp only; omega)) _) | (with_reducible apply below_drewN))) (by have := Blk.new ((w.alloc (.cells #[.int .i64 2, .int .i64 n, .slice ad sn scap] 24)).alloc (.cells #[.bool vl, .int .i64 vn, .slice vad vk vcap] 27)) #[.int .i64 0] 3; simpa using this)).mono ?_
  rintro e w1 ⟨rfl, hJ, ho⟩
  have hB1 := ho.up (w0 := w) (by repeat (first | with_reducible assumption | with_reducible exact Below.refl _ _ | with_reducible apply Below.drew | (with_reducible refine Below.alloc ?_ (by first | omega | (simp only [World.size_alloc, size_setCell, size_drew, size_drewN]; omega) | (dsimp only; omega) | (simp only [World.size_alloc, size_setCell, size_drew, size_drewN]; dsimp only; omega)) _) | (with_reducible refine Below.setCell ?_ (by first | omega | (simp only [World.size_alloc, size_setCell, size_drew, size_drewN]; omega) | (dsimp only; omega) | (simp only [World.size_alloc, size_setCell, size_drew, size_drewN]; dsimp only; omega)) _) | (with_reducible apply below_drewN))) (by omega) (by omega)
  have c0 := hJ.cell 0
  simp only [List.getElem?_toArray, List.getElem?_cons_zero] at c0
  clear ho
  go_wp2_with fail
  go_ret
  exact ⟨rfl, hB1⟩
set_option maxHeartbeats 1000000 in
theorem told_top {t : VT} (hv : ValAt w (.agg #[.bool vl, .int .i64 vn, .slice vad vk vcap]) t) : Calls Tryd.prog 36 #[.agg #[.int .i64 3, .int .i64 n, .slice ad sn scap], .agg #[.bool vl, .int .i64 vn, .slice vad vk vcap]] w (Tld (some (topW (0, false) t.nums).1) w) := by
  have HV := Lib.hid (fun W hb hJ => numbers_any (vis_top (w.heap.size + 1 + 1) (w.heap.size + 1 + 1) (w.heap.size + 1 + 1 + 1) (Nat.le_refl _) (by omega) (by omega)) w (by omega) t _ (0, false) W hv hb hJ)
  rw [topW_fold] at HV
  clear hv
  go_enter Tryd.func36, Tryd.ntmps36
  go_wp2_with fail
  refine (HV.out _ (by repeat (first | with_reducible assumption | with_reducible exact Below.refl _ _ | with_reducible apply Below.drew | (with_reducible refine Below.alloc ?_ (by first | omega | (simp only [World.size_alloc, size_setCell, size_drew, size_drewN]; omega) | (dsimp only; omega) | (simp only [World.size_alloc, size_setCell, size_drew, size_drewN]; dsimp only; omega)) _) | (with_reducible refine Below.setCell ?_ (by first | omega | (simp only [World.size_alloc, size_setCell, size_drew, size_drewN]; omega) | (dsimp only; omega) | (simp only [World.size_alloc, size_setCell, size_drew, size_drewN]; dsimp only; omega)) _) | (with_reducible apply below_drewN))) ⟨?_, ?_⟩).mono ?_
  · have := (Blk.new ((w.alloc (.cells #[.int .i64 3, .int .i64 n, .slice ad sn scap] 24)).alloc (.cells #[.bool vl, .int .i64 vn, .slice vad vk vcap] 27)) #[.int .i64 0] 3).alloc (.cells #[.bool false] 4); simpa using this
  · have := Blk.new (((w.alloc (.cells #[.int .i64 3, .int .i64 n, .slice ad sn scap] 24)).alloc (.cells #[.bool vl, .int .i64 vn, .slice vad vk vcap] 27)).alloc (.cells #[.int .i64 0] 3)) #[.bool false] 4; simpa using this
  rintro e w1 ⟨rfl, hJ, ho⟩
  have hB1 := ho.up (w0 := w) (by repeat (first | with_reducible assumption | with_reducible exact Below.refl _ _ | with_reducible apply Below.drew | (with_reducible refine Below.alloc ?_ (by first | omega | (simp only [World.size_alloc, size_setCell, size_drew, size_drewN]; omega) | (dsimp only; omega) | (simp only [World.size_alloc, size_setCell, size_drew, size_drewN]; dsimp only; omega)) _) | (with_reducible refine Below.setCell ?_ (by first | omega | (simp only [World.size_alloc, size_setCell, size_drew, size_drewN]; omega) | (dsimp only; omega) | (simp only [World.size_alloc, size_setCell, size_drew, size_drewN]; dsimp only; omega)) _) | (with_reducible apply below_drewN))) (by omega) (by omega)
  have c0 := hJ.1.cell 0
  simp only [List.getElem?_toArray, List.getElem?_cons_zero] at c0
  clear ho
  go_wp2_with fail
  go_ret
  exact ⟨rfl, hB1⟩
end
theorem toldI_none (s : List ET) : ∀ (i : Nat) (t : VT), s.length ≤ i → ET.toldI s i t = none := by
  induction s with
  | nil => intro i t _; rfl
  | cons y s ih =>
    intro i t hi
    cases i with
    | zero => simp at hi
    | succ i => exact ih i t (by simpa using hi)
/-- WHAT IS TOLD. -/
theorem told_any (x : ET) : ∀ (t : VT) (xv vv : Value) (w : World), ET.eachErr x = 0 → ExprAt w xv x → ValAt w vv t → Calls Tryd.prog 36 #[xv, vv] w (Tld (ET.told x t) w) := by
  induction x using ET.ind with
  | h k n s ih =>
    intro t xv vv w he hx hv
    obtain ⟨hk1, hk2, htk, hkids⟩ := ET.ok_form he
    obtain ⟨k', n', s', ad, cap, hmk, rfl, hk, hn, hl, hm, hs⟩ := hx.form
    obtain ⟨rfl, rfl, rfl⟩ := ET.mk.inj hmk
    obtain ⟨vl, vn, vs, vad, vcap, rfl, rfl, _, hvl, hvm, hvs⟩ := hv.form
    have hsub : ∀ i : Nat, i < s.length → SubAt w i k n vn vl s.length cap vs.length vcap ad vad (ET.toldI s i (.mk vl vn vs)) := by
      intro i hi W hb hx1 hv1
      obtain ⟨bl, off, rfl, hlt1, hc⟩ := (hs.ext hb).at' (by omega)
      obtain ⟨k2, n2, t2, ad2, cap2, c0, c1, c2, hg2⟩ := hc i hi
      rw [ET.toldI_get s i hi]
      refine sub_any _ i _ _ bl off k n k2 n2 vn vl _ _ _ _ _ _ _ _ W hi hl hm hx1 hv1 c0 c1 c2 (Lib.hid fun W2 hb2 => ih s[i] (List.getElem_mem hi) _ _ _ W2 (hkids _ (List.getElem_mem hi)) (hg2.ext hb2) ((hv.ext hb).ext hb2))
    have hcases : k = 1 ∨ k = 2 ∨ k = 3 ∨ k = 4 ∨ k = 5 ∨ k = 6 ∨ k = 7 ∨ k = 8 ∨ k = 9 ∨ k = 10 ∨ k = 11 := by omega
    clear hs hx hmk
    rcases hcases with rfl | rfl | rfl | rfl | rfl | rfl | rfl | rfl | rfl | rfl | rfl
    · have e : ET.told (.mk 1 n s) (.mk vl vn vs) = some n := by simp [ET.told]
      rw [e]; exact told_lit
    · have e : ET.told (.mk 2 n s) (.mk vl vn vs) = some (sumW 0 (VT.nums (.mk vl vn vs))) := by simp [ET.told]
      rw [e]; exact told_sum hv
    · have e : ET.told (.mk 3 n s) (.mk vl vn vs) = some (topW (0, false) (VT.nums (.mk vl vn vs))).1 := by simp [ET.told]
      rw [e]; exact told_top hv
    · have e : ET.told (.mk 4 n s) (.mk vl vn vs) = some (vs.length : Int) := by simp [ET.told, VT.len]
      rw [e]; exact told_len
    all_goals rw [told_k _ _ _ _ (by omega)]
    · have h2 : s.length = 2 := by simp [ET.takes] at htk; omega
      exact told_add (Lib.hid (hsub 0 (by omega))) (Lib.hid (hsub 1 (by omega)))
    · have h2 : s.length = 2 := by simp [ET.takes] at htk; omega
      exact told_rem (Lib.hid (hsub 0 (by omega))) (Lib.hid (hsub 1 (by omega)))
    · have h2 : s.length = 2 := by simp [ET.takes] at htk; omega
      exact told_less (Lib.hid (hsub 0 (by omega))) (Lib.hid (hsub 1 (by omega)))
    · have h2 : s.length = 2 := by simp [ET.takes] at htk; omega
      exact told_same (Lib.hid (hsub 0 (by omega))) (Lib.hid (hsub 1 (by omega)))
    · have h2 : s.length = 1 := by simp [ET.takes] at htk; omega
      exact told_nine (Lib.hid (hsub 0 (by omega)))
    · have h2 : s.length = 2 := by simp [ET.takes] at htk; omega
      exact told_and (Lib.hid (hsub 0 (by omega))) (Lib.hid (hsub 1 (by omega)))
    · have h2 : s.length = 2 := by simp [ET.takes] at htk; omega
      exact told_or (Lib.hid (hsub 0 (by omega))) (Lib.hid (hsub 1 (by omega)))
end Go.Proofs.YtcecpggkeaohnaaDoor
