/- Plain mathematics of the generator of random numbers: no program in sight. -/
namespace Go.Proofs.Ytjobgkcoblpbcaa
namespace PRng
def M : Nat := 18446744073709551616
/-- The mix of splitmix64, on natural numbers. -/
def mix (z : Nat) : Nat :=
  let a := (z ^^^ z / 1073741824) * 13787848793156543929 % 18446744073709551616
  let b := (a ^^^ a / 134217728) * 10723151780598845931 % 18446744073709551616
  b ^^^ b / 2147483648

theorem xs_inv (k z : Nat) (hk : 64 ≤ 3 * k) (hz : z < 2 ^ 64) :
    (z ^^^ z >>> k) ^^^ (z ^^^ z >>> k) >>> k ^^^ (z ^^^ z >>> k) >>> (2 * k) = z := by
  have h0 : z >>> (k + 2 * k) = 0 := by
    rw [Nat.shiftRight_eq_div_pow]
    apply Nat.div_eq_of_lt
    exact Nat.lt_of_lt_of_le hz (Nat.pow_le_pow_right (by decide) (by omega))
  rw [Nat.shiftRight_xor_distrib, Nat.shiftRight_xor_distrib, ← Nat.shiftRight_add, ← Nat.shiftRight_add, h0, show k + k = 2 * k by omega]
  generalize z >>> k = p
  generalize z >>> (2 * k) = q
  rw [Nat.xor_zero]
  apply Nat.eq_of_testBit_eq
  intro i
  simp only [Nat.testBit_xor]
  cases z.testBit i <;> cases p.testBit i <;> cases q.testBit i <;> rfl

theorem xs_inj (k x y : Nat) (hk : 64 ≤ 3 * k) (hx : x < 2 ^ 64) (hy : y < 2 ^ 64) (h : x ^^^ x >>> k = y ^^^ y >>> k) : x = y := by
  have a := xs_inv k x hk hx
  rw [h, xs_inv k y hk hy] at a
  exact a.symm

theorem mul_inj (c d x y : Nat) (hcd : c * d % 18446744073709551616 = 1) (hx : x < 18446744073709551616) (hy : y < 18446744073709551616)
    (h : x * c % 18446744073709551616 = y * c % 18446744073709551616) : x = y := by
  have key : ∀ t, t < 18446744073709551616 → (t * c % 18446744073709551616) * d % 18446744073709551616 = t := by
    intro t ht
    rw [Nat.mod_mul_mod, Nat.mul_assoc, ← Nat.mul_mod_mod, hcd, Nat.mul_one, Nat.mod_eq_of_lt ht]
  have a := key x hx
  rw [h, key y hy] at a
  exact a.symm

theorem xs_lt (k z : Nat) (hz : z < 18446744073709551616) : z ^^^ z >>> k < 18446744073709551616 :=
  Nat.xor_lt_two_pow (n := 64) hz (Nat.lt_of_le_of_lt (Nat.shiftRight_le z k) hz)

theorem div_shift (z k c : Nat) (hc : 2 ^ k = c) : z / c = z >>> k := by rw [Nat.shiftRight_eq_div_pow, hc]

theorem mix_lt (z : Nat) : mix z < 18446744073709551616 := by
  unfold mix
  dsimp only
  rw [div_shift _ 31 2147483648 (by decide)]
  exact xs_lt 31 _ (Nat.mod_lt _ (by decide))

theorem mix_inj (x y : Nat) (hx : x < 18446744073709551616) (hy : y < 18446744073709551616) (h : mix x = mix y) : x = y := by
  unfold mix at h
  dsimp only at h
  rw [div_shift _ 31 2147483648 (by decide), div_shift _ 31 2147483648 (by decide)] at h
  have h1 := xs_inj 31 _ _ (by decide) (Nat.mod_lt _ (by decide)) (Nat.mod_lt _ (by decide)) h
  rw [div_shift _ 27 134217728 (by decide), div_shift _ 27 134217728 (by decide)] at h1
  have h2 := mul_inj 10723151780598845931 3573116690164977347 _ _ (by decide) (xs_lt 27 _ (Nat.mod_lt _ (by decide))) (xs_lt 27 _ (Nat.mod_lt _ (by decide))) h1
  have h3 := xs_inj 27 _ _ (by decide) (Nat.mod_lt _ (by decide)) (Nat.mod_lt _ (by decide)) h2
  rw [div_shift _ 30 1073741824 (by decide), div_shift _ 30 1073741824 (by decide)] at h3
  have h4 := mul_inj 13787848793156543929 10871156337175269513 _ _ (by decide) (xs_lt 30 _ hx) (xs_lt 30 _ hy) h3
  exact xs_inj 30 _ _ (by decide) hx hy h4

theorem mix_known : mix 11400714819323198485 = 16294208416658607535 := by decide

theorem odd_round (g i s : Nat) (hg : g % 2 = 1) (hi : 1 ≤ i) (hi2 : i ≤ 20) (hs : s < 18446744073709551616) : (s + i * g) % 18446744073709551616 ≠ s := by
  intro h
  have hd : 18446744073709551616 ∣ i * g := by
    have h1 : (s + i * g) % 18446744073709551616 = s % 18446744073709551616 := by rw [h, Nat.mod_eq_of_lt hs]
    omega
  have hc : Nat.Coprime (2 ^ 64) g := Nat.Coprime.pow_left 64 (by unfold Nat.Coprime; rw [Nat.gcd_rec, hg]; rfl)
  have := Nat.Coprime.dvd_of_dvd_mul_right hc hd
  have := Nat.le_of_dvd (by omega) this
  omega
/-- What is told below n. -/
def below (s g : Nat) (n : Nat) : Nat := mix ((s + g) % 18446744073709551616) / 4294967296 * n / 4294967296
theorem below_lt (s g n : Nat) (h : 1 ≤ n) : below s g n < n := by
  have hm := mix_lt ((s + g) % 18446744073709551616)
  unfold below
  generalize mix ((s + g) % 18446744073709551616) = X at *
  have h1 : X / 4294967296 ≤ 4294967295 := by omega
  have h2 : X / 4294967296 * n ≤ 4294967295 * n := Nat.mul_le_mul_right _ h1
  omega
theorem below_mono (s g n m : Nat) (h : m ≤ n) : below s g m ≤ below s g n := by
  unfold below
  exact Nat.div_le_div_right (Nat.mul_le_mul_left _ h)
end PRng
end Go.Proofs.Ytjobgkcoblpbcaa
