/-
Plain laws on sums of bytes: both ways to reckon them are one.
-/
import Derived.Test.YtpknhpfbinplgaaRcWake
namespace Go.Proofs.Ytpknhpfbinplgaa

def polyN : Nat := 2197175160
def stepC (r : Nat) : Nat := r / 2 ^^^ (if r % 2 = 1 then polyN else 0)
def stepsC : Nat → Nat → Nat
  | 0, r => r
  | k + 1, r => stepC (stepsC k r)
def eightC (r : Nat) : Nat := stepsC 8 r
/-- The reference's way. -/
def foldC (r : Nat) (b : List UInt8) : Nat := b.foldl (fun r c => eightC (r ^^^ c.toNat)) r
def sumC (b : List UInt8) : Nat := 4294967295 - foldC 4294967295 b

theorem xor_lt {a b : Nat} (ha : a < 4294967296) (hb : b < 4294967296) : a ^^^ b < 4294967296 := Nat.xor_lt_two_pow (n := 32) ha hb
theorem stepC_lt {r : Nat} (h : r < 4294967296) : stepC r < 4294967296 := by
  unfold stepC
  apply xor_lt
  · omega
  · split <;> decide
theorem stepsC_lt : ∀ (k : Nat) {r : Nat}, r < 4294967296 → stepsC k r < 4294967296
  | 0, _, h => h
  | k + 1, _, h => stepC_lt (stepsC_lt k h)
theorem eightC_lt {r : Nat} (h : r < 4294967296) : eightC r < 4294967296 := stepsC_lt 8 h
theorem foldC_lt : ∀ (b : List UInt8) {r : Nat}, r < 4294967296 → foldC r b < 4294967296
  | [], _, h => h
  | c :: b, r, h => by
    have hc : c.toNat < 4294967296 := by have := c.toNat_lt; omega
    exact foldC_lt b (eightC_lt (xor_lt h hc))
theorem sumC_le (b : List UInt8) : sumC b ≤ 4294967295 := by unfold sumC; omega
theorem xor_half (a b : Nat) : (a ^^^ b) / 2 = a / 2 ^^^ b / 2 := Nat.xor_div_two
theorem xor_odd (a b : Nat) : (a ^^^ b) % 2 = (a + b) % 2 := by
  have h := Nat.xor_mod_two_pow (a := a) (b := b) (n := 1)
  simp only [Nat.pow_one] at h
  rw [h]
  rcases Nat.mod_two_eq_zero_or_one a with ha | ha <;> rcases Nat.mod_two_eq_zero_or_one b with hb | hb <;> rw [ha, hb] <;> (first | (show (0 : Nat) = _; omega) | (show (1 : Nat) = _; omega))
theorem stepC_xor (a b : Nat) : stepC (a ^^^ b) = stepC a ^^^ stepC b := by
  unfold stepC
  rw [xor_half, xor_odd]
  have hx : ∀ x y p q : Nat, (x ^^^ p) ^^^ (y ^^^ q) = (x ^^^ y) ^^^ (p ^^^ q) := fun x y p q => by
    rw [Nat.xor_assoc, Nat.xor_assoc, ← Nat.xor_assoc p, Nat.xor_comm p y, Nat.xor_assoc]
  rw [hx]
  congr 1
  rcases Nat.mod_two_eq_zero_or_one a with ha | ha <;> rcases Nat.mod_two_eq_zero_or_one b with hb | hb
  · rw [if_neg (by omega), if_neg (by omega), if_neg (by omega)]; rfl
  · rw [if_pos (by omega), if_neg (by omega), if_pos (by omega)]; exact (Nat.zero_xor _).symm
  · rw [if_pos (by omega), if_pos (by omega), if_neg (by omega)]; exact (Nat.xor_zero _).symm
  · rw [if_neg (by omega), if_pos (by omega), if_pos (by omega)]; exact (Nat.xor_self _).symm
theorem stepsC_xor : ∀ (k a b : Nat), stepsC k (a ^^^ b) = stepsC k a ^^^ stepsC k b
  | 0, _, _ => rfl
  | k + 1, a, b => by simp only [stepsC]; rw [stepsC_xor k, stepC_xor]
theorem stepC_double (x : Nat) : stepC (2 * x) = x := by
  unfold stepC
  rw [if_neg (by omega), Nat.mul_div_cancel_left x (by omega)]
  exact Nat.xor_zero x
theorem stepsC_succ : ∀ (k r : Nat), stepsC (k + 1) r = stepsC k (stepC r)
  | 0, _ => rfl
  | k + 1, r => by rw [stepsC, stepsC_succ k r]; rfl
theorem eightC_high (x : Nat) : eightC (256 * x) = x := by
  unfold eightC
  rw [show 256 * x = 2 * (128 * x) by omega, stepsC_succ, stepC_double, show 128 * x = 2 * (64 * x) by omega, stepsC_succ, stepC_double, show 64 * x = 2 * (32 * x) by omega, stepsC_succ, stepC_double,
    show 32 * x = 2 * (16 * x) by omega, stepsC_succ, stepC_double, show 16 * x = 2 * (8 * x) by omega, stepsC_succ, stepC_double, show 8 * x = 2 * (4 * x) by omega, stepsC_succ, stepC_double,
    show 4 * x = 2 * (2 * x) by omega, stepsC_succ, stepC_double, stepsC_succ, stepC_double]
  rfl
theorem split_high (r : Nat) : r = 256 * (r / 256) ^^^ r % 256 := by
  have h : r % 256 < 2 ^ 8 := by omega
  have h1 := Nat.two_pow_add_eq_or_of_lt h (r / 256)
  have h2 : 2 ^ 8 * (r / 256) ||| r % 256 = 2 ^ 8 * (r / 256) ^^^ r % 256 := by
    apply Nat.eq_of_testBit_eq
    intro i
    rw [Nat.testBit_or, Nat.testBit_xor]
    by_cases hi : i < 8
    · rw [Nat.testBit_two_pow_mul]
      simp [show ¬ 8 ≤ i by omega]
    · have : (r % 256).testBit i = false := Nat.testBit_lt_two_pow (Nat.lt_of_lt_of_le h (Nat.pow_le_pow_right (by omega) (by omega)))
      rw [this]
      simp
  calc r = 2 ^ 8 * (r / 256) + r % 256 := by omega
    _ = 2 ^ 8 * (r / 256) ||| r % 256 := h1
    _ = 256 * (r / 256) ^^^ r % 256 := h2
/-- One byte, the program's way. -/
theorem eightC_byte (r c : Nat) : eightC (r ^^^ c) = r / 256 ^^^ eightC (r % 256 ^^^ c) := by
  conv => lhs; rw [split_high r, Nat.xor_assoc]
  unfold eightC
  rw [stepsC_xor]
  congr 1
  exact eightC_high _
theorem foldC_snoc (r : Nat) (b : List UInt8) (c : UInt8) : foldC r (b ++ [c]) = eightC (foldC r b ^^^ c.toNat) := by simp [foldC]
theorem foldC_step {r : Nat} {b : List UInt8} {k : Nat} (hk : k < b.length) : foldC r (b.take (k + 1)) = eightC (foldC r (b.take k) ^^^ b[k].toNat) := by
  rw [List.take_add_one, List.getElem?_eq_getElem hk]
  exact foldC_snoc _ _ _
end Go.Proofs.Ytpknhpfbinplgaa
