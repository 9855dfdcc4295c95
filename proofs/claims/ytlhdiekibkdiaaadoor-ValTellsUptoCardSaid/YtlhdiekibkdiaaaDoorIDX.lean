/- strings.IndexAny at " )", whatever the text. -/
import Derived.Test.YtlhdiekibkdiaaaDoorRDR
import Derived.Laws.RangeAny
import Derived.Lib.OthersKept
import Derived.WalkMore
import Derived.Deep.QuietTactic
namespace Go.Proofs.YtlhdiekibkdiaaaDoor
set_option maxRecDepth 100000
open Go.RowKit Go.Shelf
set_option linter.unusedSimpArgs false
set_option linter.unusedVariables false
theorem decode_cont (s : ByteArray) (pos : Nat) (h : pos < s.size) (ha : 128 ≤ (s[pos]'h).toNat) : ∀ k, k < (Utf8.decode s pos).2 → pos + k < s.size ∧ 128 ≤ (s.get! (pos + k)).toNat := by
  have hn : ¬ (s[pos]'h).toNat < 128 := by omega
  have h0 : pos + 0 < s.size ∧ 128 ≤ (s.get! (pos + 0)).toNat := ⟨h, by rw [get_at s pos h]; exact ha⟩
  simp only [Utf8.decode, get_at s pos h, hn, if_false]
  repeat' split
  all_goals intro k hk
  all_goals simp_all
  all_goals
    have hk4 : k = 0 ∨ k = 1 ∨ k = 2 ∨ k = 3 := by omega
    rcases hk4 with rfl | rfl | rfl | rfl <;> (try simp only [Nat.add_zero]) <;> omega
theorem enc_shape (r : Nat) (h : 128 ≤ r) : (∃ x0 x1, Utf8.encode (r : Int) = ⟨#[x0, x1]⟩ ∧ 128 ≤ x1.toNat) ∨ (∃ x0 x1 x2, Utf8.encode (r : Int) = ⟨#[x0, x1, x2]⟩) ∨ (∃ x0 x1 x2 x3, Utf8.encode (r : Int) = ⟨#[x0, x1, x2, x3]⟩) := by
  unfold Utf8.encode
  have hc : 128 ≤ (if Utf8.valid (r : Int) = true then (r : Int).toNat else Utf8.runeError) := by split <;> simp [Utf8.runeError]; omega
  generalize (if Utf8.valid (r : Int) = true then (r : Int).toNat else Utf8.runeError) = c at hc
  dsimp only
  rw [if_neg (by omega)]
  split
  · exact .inl ⟨_, _, rfl, by rw [UInt8.toNat_ofNat']; omega⟩
  · split
    · exact .inr (.inl ⟨_, _, _, rfl⟩)
    · exact .inr (.inr ⟨_, _, _, _, rfl⟩)
theorem irune_high (r : Nat) (h : 128 ≤ r) (h2 : r ≤ 2147483647) (w : World) :
    Calls Tryd.prog 95 #[.string ⟨#[32, 41]⟩, .int .i32 r] w fun e w' => e = .returned (.int .i64 (-1)) ∧ Below w.heap.size w w' := by
  have p0 : ¬ (r : Int) < 128 := by omega
  have p1 : (0 : Int) ≤ (r : Int) := by omega
  by_cases he : (r : Int) = 65533
  · rw [he]
    have hq : ((65533 : Int) == 65533) = true := by decide
    clear p0 p1
    go_enter Tryd.func95, Tryd.ntmps95
    go_wp2_with fail
    go_loopg [5, 6] 2 (fun g _ _ wx => ∃ i : Nat, i + g = 2 ∧ wx = w.iter ⟨#[32, 41]⟩ i)
    case atStart => exact ⟨0, rfl, rfl⟩
    case round =>
      obtain ⟨i, hig, rfl⟩ := hrel
      cases gk with
      | zero =>
        obtain rfl : i = 2 := by omega
        have hnx := run_next_end (P := Tryd.prog) w ⟨#[32, 41]⟩ 2
        go_wp2_with fail
        go_ret
        exact ⟨rfl, (Below.refl _ _).alloc (Nat.le_refl _) _⟩
      | succ g =>
        have hi : i = 0 ∨ i = 1 := by omega
        rcases hi with rfl | rfl
        · have hnx := fun ty => run_next_ascii (P := Tryd.prog) w ⟨#[32, 41]⟩ 0 ty (by decide) (by decide)
          have hx : ((⟨#[32, 41]⟩ : ByteArray)[0]'(by decide)) = 32 := rfl
          rw [hx] at hnx
          go_wp2_with fail
          go_roundg g
          case measure => omega
          case rel => exact ⟨1, by omega, rfl⟩
        · have hnx := fun ty => run_next_ascii (P := Tryd.prog) w ⟨#[32, 41]⟩ 1 ty (by decide) (by decide)
          have hx : ((⟨#[32, 41]⟩ : ByteArray)[1]'(by decide)) = 41 := rfl
          rw [hx] at hnx
          go_wp2_with fail
          go_roundg g
          case measure => omega
          case rel => exact ⟨2, by omega, rfl⟩
  · have CV := Lib.hid (validRune_any (r : Int) w)
    have HEN := Lib.hid (enc_shape r h)
    go_enter Tryd.func95, Tryd.ntmps95
    go_wp2_with fail
    refine CV.out.mono ?_
    rintro e w1 ⟨rfl, hw⟩
    rw [hw]
    clear hw CV
    cases Lib.validRune (r : Int) with
    | false =>
      go_wp2_with fail
      go_ret
      exact ⟨rfl, Below.refl _ _⟩
    | true =>
      go_wp2_with fail
      go_step3
      rcases HEN.out with ⟨x0, x1, henc, hx⟩ | ⟨x0, x1, x2, henc⟩ | ⟨x0, x1, x2, x3, henc⟩
      · have hx2 : ¬ (41 : Int) = (x1.toNat : Int) := by omega
        have hx3 : ((41 : Int) == (x1.toNat : Int)) = false := by simpa using hx2
        go_wp2_with fail
        go_loopw [9, 10] (fun a b wr => a = .int .i64 1 ∧ b = .int .i64 0 ∧ wr = w) (fun _ _ _ => 0)
        case atStart => exact ⟨rfl, rfl, rfl⟩
        case round =>
          obtain ⟨rfl, rfl, rfl⟩ := hrel
          go_wp2_with fail
          go_step3
          go_wp2_with fail
          have hwr : IntKind.i64.wrap 2 = 2 := by decide
          have CI : Hid (∀ W, Calls Tryd.prog 115 #[.string ByteArray.empty, .int .u8 (x1.toNat : Int)] W fun e w' => e = .returned (.int .i64 (-1)) ∧ w' = W) := fun W => indexByte_any ByteArray.empty _ W
          have g1 : ∀ h, (⟨#[32, 41]⟩ : ByteArray)[1]'h = 41 := fun _ => rfl
          have g2 : ∀ h, (⟨#[x0, x1]⟩ : ByteArray)[1]'h = x1 := fun _ => rfl
          have g3 : ((41 : Int) != (x1.toNat : Int)) = true := by simpa [bne] using hx2
          go_quiet (fail)
          go_wp2_with fail
          go_quiet (first | (go_at_call 115; refine (CI.out _).mono fun _ _ h => ⟨h.1, _, h.2⟩))
          go_wp2_with fail
          rw [Exit.noGoto_ret]
          go_wp2_with fail
          rw [Exit.noGoto_ret]
          go_ret
          exact ⟨rfl, by repeat (first | with_reducible assumption | with_reducible exact Below.refl _ _ | with_reducible apply Below.drew | (with_reducible refine Below.alloc ?_ (by first | omega | (simp only [zA, zS, zD, zN]; omega) | (dsimp only; omega) | (simp only [zA, zS, zD, zN]; dsimp only; omega)) _) | (with_reducible refine Below.setCell ?_ (by first | omega | (simp only [zA, zS, zD, zN]; omega) | (dsimp only; omega) | (simp only [zA, zS, zD, zN]; dsimp only; omega)) _) | (with_reducible apply below_drewN))⟩
      · go_wp2_with fail
        go_loopw [9, 10] (fun a b wr => a = .int .i64 2 ∧ b = .int .i64 0 ∧ wr = w) (fun _ _ _ => 0)
        case atStart => exact ⟨rfl, rfl, rfl⟩
        case round =>
          obtain ⟨rfl, rfl, rfl⟩ := hrel
          go_wp2_with fail
          rw [Exit.noGoto_ret]
          go_ret
          exact ⟨rfl, Below.refl _ _⟩
      · go_wp2_with fail
        go_loopw [9, 10] (fun a b wr => a = .int .i64 3 ∧ b = .int .i64 0 ∧ wr = w) (fun _ _ _ => 0)
        case atStart => exact ⟨rfl, rfl, rfl⟩
        case round =>
          obtain ⟨rfl, rfl, rfl⟩ := hrel
          go_wp2_with fail
          rw [Exit.noGoto_ret]
          go_ret
          exact ⟨rfl, Below.refl _ _⟩
theorem noAny_high (s : ByteArray) (i n : Nat) (h : Lib.NoAny s.data.toList [32, 41] i) (hn : ∀ k, k < n → i + k < s.size ∧ 128 ≤ (s.get! (i + k)).toNat) : Lib.NoAny s.data.toList [32, 41] (i + n) := by
  intro j b hj hb
  by_cases hi : j < i
  · exact h j b hi hb
  · obtain ⟨k, rfl⟩ : ∃ k, j = i + k := ⟨j - i, by omega⟩
    obtain ⟨h1, h2⟩ := hn k (by omega)
    have h3 := Lib.data_getElem? s (i + k) h1
    rw [hb] at h3
    have h4 : s.get! (i + k) = s[i + k]'h1 := by have := get_at s (i + k) h1; rwa [Nat.add_zero] at this
    rw [h4, ← Option.some.inj h3] at h2
    have h5 : b ≠ 32 := fun e => by subst e; exact absurd h2 (by decide)
    have h6 : b ≠ 41 := fun e => by subst e; exact absurd h2 (by decide)
    simp [h5, h6]
set_option maxHeartbeats 8000000 in
set_option maxRecDepth 1000000 in
theorem idx_short (s : ByteArray) (h8 : s.size ≤ 8) (w : World) :
    Calls Tryd.prog 73 #[.string s, .string ⟨#[32, 41]⟩] w fun e w' => e = .returned (.int .i64 (Lib.indexAny s.data.toList [32, 41])) ∧ Below w.heap.size w w' := by
  have h8z : decide ((8 : Int) < (s.size : Int)) = false := decide_eq_false (by omega)
  have CS := Lib.hid (fun W => Any.strings_shouldUseASCIISet (P := Tryd.prog) (ρ := tx_lays153_ren) { tx_lays153 with } s.size W)
  go_enter Tryd.func73, Tryd.ntmps73
  go_wp2_with fail
  refine (CS.out _).mono ?_
  rintro e w1 ⟨rfl, hw⟩
  rw [hw, h8z]
  clear hw w1 CS
  go_wp2_with fail
  have hi0 : (w.iter s 0).heap[w.heap.size]? = some (.stringIter s 0) := World.iter_heap _ _ _
  have hB0 : Below w.heap.size w (w.iter s 0) := (Below.refl _ _).alloc (Nat.le_refl _) _
  generalize w.iter s 0 = W0 at *
  go_loopg [9, 10] s.size (fun g _ _ wx => ∃ i : Nat, s.size ≤ i + g ∧ wx.heap[w.heap.size]? = some (.stringIter s i) ∧ Below w.heap.size w wx ∧ Hid (Lib.NoAny s.data.toList [32, 41] i))
  case atStart => exact ⟨0, by omega, hi0, hB0, Lib.NoAny.zero _ _⟩
  case round =>
    obtain ⟨i, hig, hit, hbr, HN⟩ := hrel
    have hltr : w.heap.size < wr.heap.size := (Array.getElem?_eq_some_iff.1 hit).1
    have HIT := Lib.hid hit
    clear hit hi0 hB0
    by_cases hi : i < s.size
    · cases gk with
      | zero => exact absurd hi (by omega)
      | succ g =>
        by_cases hx : (s[i]'hi).toNat < 128
        · obtain ⟨x, hxe⟩ : ∃ x : UInt8, s[i]'hi = x := ⟨_, rfl⟩
          have hxl : s.data.toList[i]? = some x := by rw [← hxe]; exact Lib.data_getElem? s i hi
          have hnx := fun ty => Lib.run_next_ascii_at (P := Tryd.prog) wr w.heap.size s i ty HIT.out hi hx
          have HT : Hid ((wr.iterAt w.heap.size s (i + 1)).heap[w.heap.size]? = some (.stringIter s (i + 1))) := Lib.iterAt_heap _ _ _ _ _ HIT.out
          have HB : Hid (Below w.heap.size w (wr.iterAt w.heap.size s (i + 1))) := Lib.below_iterAt hbr (Nat.le_refl _) _ _
          rw [hxe] at hnx hx
          have CI := Lib.hid (fun W => Any.strings_IndexRune_ascii (P := Tryd.prog) (ρ := tx_lays153_ren) { tx_lays153 with } ⟨#[32, 41]⟩ (x.toNat : Int) W (by omega) (by omega))
          have hback : ((x.toNat : Int)).toNat.toUInt8 = x := by simp
          have HX := Lib.hid hxl
          have HXL := Lib.hid hx
          have hcon := Lib.contains_iff_indexByte [32, 41] x
          clear hxl hxe hx
          cases hin : ([32, 41] : List UInt8).contains x with
          | false =>
            rw [hin] at hcon
            have hlt : ¬ ((0 : Int) ≤ Lib.indexByte [32, 41] x) := of_decide_eq_false hcon.symm
            clear hcon
            generalize hww : wr.iterAt w.heap.size s (i + 1) = W1 at *
            go_wp2_with fail
            refine (CI.out _).mono ?_
            rintro e w2 ⟨rfl, hw⟩
            rw [hw, hback]
            clear hw w2 hback CI
            go_wp2_with fail
            go_roundg g
            case measure => omega
            case rel => exact ⟨i + 1, by omega, HT.out, HB.out, HN.out.succ HX.out hin⟩
          | true =>
            rw [hin] at hcon
            have hge : (0 : Int) ≤ Lib.indexByte [32, 41] x := of_decide_eq_true hcon.symm
            clear hcon
            have HH := Lib.hid (Lib.indexAny_hit HN.out HX.out hin)
            generalize hww : wr.iterAt w.heap.size s (i + 1) = W1 at *
            go_wp2_with fail
            refine (CI.out _).mono ?_
            rintro e w2 ⟨rfl, hw⟩
            rw [hw, hback]
            clear hw w2 hback CI
            go_wp2_with fail
            go_ret
            exact ⟨by rw [HH.out]; rfl, HB.out⟩
        · have hge : 128 ≤ (s[i]'hi).toNat := by omega
          obtain ⟨d1, d2⟩ := decode_high s i hi hge
          have hle := decode_le s i
          have hct := Lib.hid (decode_cont s i hi hge)
          have hnx := fun ty => Lib.run_next_any_at (P := Tryd.prog) wr w.heap.size s i ty HIT.out hi
          have HT : Hid ((wr.iterAt w.heap.size s (i + (Utf8.decode s i).2)).heap[w.heap.size]? = some (.stringIter s (i + (Utf8.decode s i).2))) := Lib.iterAt_heap _ _ _ _ _ HIT.out
          have HB : Hid (Below w.heap.size w (wr.iterAt w.heap.size s (i + (Utf8.decode s i).2))) := Lib.below_iterAt hbr (Nat.le_refl _) _ _
          have CI := Lib.hid (fun W => irune_high (Utf8.decode s i).1 d1 hle W)
          have hzz : (wr.iterAt w.heap.size s (i + (Utf8.decode s i).2)).heap.size = wr.heap.size := Lib.iterAt_size _ _ _ _
          generalize (Utf8.decode s i).1 = r at *
          generalize (Utf8.decode s i).2 = n at *
          have HZ : Hid (w.heap.size < (wr.iterAt w.heap.size s (i + n)).heap.size) := by show _ < _; omega
          have HHI := Lib.hid (noAny_high s i n HN.out hct.out)
          clear hzz hx hge
          generalize hww : wr.iterAt w.heap.size s (i + n) = W1 at *
          go_wp2_with fail
          refine (CI.out _).mono ?_
          rintro e w2 ⟨rfl, hb⟩
          have HT2 : Hid (w2.heap[w.heap.size]? = some (.stringIter s (i + n))) := (hb.block _ HZ.out).trans HT.out
          have HB2 := Lib.hid (HB.out.trans (hb.mono HB.out.size))
          clear hb CI
          go_wp2_with fail
          go_roundg g
          case measure => omega
          case rel => exact ⟨i + n, by omega, HT2.out, HB2.out, HHI.out⟩
    · have hnx := fun ty => Lib.run_next_end_at (P := Tryd.prog) wr w.heap.size s i ty HIT.out hi
      have HNO : Hid (Lib.indexAny s.data.toList [32, 41] = -1) := by
        refine Lib.indexAny_none ?_
        intro j b hj hb
        exact HN.out j b (by rw [← Lib.size_eq] at hj; omega) hb
      go_wp2_with fail
      go_ret
      exact ⟨by rw [HNO.out]; rfl, hbr⟩
theorem idx_any : IdxAny := by
  intro s w hs
  by_cases h8 : s.size ≤ 8
  · exact idx_short s h8 w
  · refine (Any.strings_IndexAny_long tx_lays153 (fun w => by kernel_rfl) (by kernel_rfl) s ⟨#[32, 41]⟩ w (by decide) (by omega) hs (by decide) (fun j b hb => ?_)).mono fun e w' ⟨he, hw⟩ => ⟨he, ?_⟩
    · have hj : j < 2 := (List.getElem?_eq_some_iff.1 hb).1
      have : j = 0 ∨ j = 1 := by omega
      rcases this with rfl | rfl
      · have := Option.some.inj hb; subst this; decide
      · have := Option.some.inj hb; subst this; decide
    · rw [hw]; exact ((Below.refl _ _).alloc (Nat.le_refl _) _).alloc (by simp) _
end Go.Proofs.YtlhdiekibkdiaaaDoor
