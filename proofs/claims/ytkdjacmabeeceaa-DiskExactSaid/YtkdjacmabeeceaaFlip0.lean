/-
Plain laws on bits that are turned about.
-/
import Derived.Test.YtkdjacmabeeceaaTwin
import Derived.Laws.BitsAllLaws
namespace Go.Proofs.Ytkdjacmabeeceaa
open Go.RowKit

def flipB (b : List UInt8) (k : Nat) : List UInt8 := b.modify (k / 8) fun x => x ^^^ UInt8.ofNat (2 ^ (k % 8))
theorem flipB_length (b : List UInt8) (k : Nat) : (flipB b k).length = b.length := List.length_modify _ _ _
theorem flipB_twice (b : List UInt8) (k : Nat) : flipB (flipB b k) k = b := by
  unfold flipB
  apply List.ext_getElem?
  intro i
  rw [List.getElem?_modify, List.getElem?_modify]
  cases b[i]? with
  | none => rfl
  | some x =>
    simp only [Option.map_eq_map, Option.map_some, Option.some.injEq]
    split
    · rw [UInt8.xor_assoc, UInt8.xor_self, UInt8.xor_zero]
    · rfl
theorem flipB_comm (b : List UInt8) (j k : Nat) : flipB (flipB b j) k = flipB (flipB b k) j := by
  unfold flipB
  apply List.ext_getElem?
  intro i
  simp only [List.getElem?_modify]
  cases b[i]? with
  | none => rfl
  | some x =>
    simp only [Option.map_eq_map, Option.map_some, Option.some.injEq]
    split <;> split
    · rw [UInt8.xor_assoc, UInt8.xor_assoc, UInt8.xor_comm (UInt8.ofNat _)]
    · rfl
    · rfl
    · rfl
/-- The first i bits that p picks turned about, from bit a on. -/
def flipN (p : Nat → Bool) (a : Nat) (b : List UInt8) : Nat → List UInt8
  | 0 => b
  | i + 1 => if p i && decide (a + i < 8 * b.length) then flipB (flipN p a b i) (a + i) else flipN p a b i
theorem flipN_length (p : Nat → Bool) (a : Nat) (b : List UInt8) (i : Nat) : (flipN p a b i).length = b.length := by
  induction i with
  | zero => rfl
  | succ i ih => unfold flipN; split; rw [flipB_length, ih]; exact ih
theorem flipN_flipB (p : Nat → Bool) (a : Nat) (b : List UInt8) (k i : Nat) : flipN p a (flipB b k) i = flipB (flipN p a b i) k := by
  induction i with
  | zero => rfl
  | succ i ih =>
    unfold flipN
    rw [flipB_length]
    split
    · rw [ih, flipB_comm]
    · exact ih
theorem flipN_twice (p : Nat → Bool) (a : Nat) (b : List UInt8) (i : Nat) : flipN p a (flipN p a b i) i = b := by
  induction i with
  | zero => rfl
  | succ i ih =>
    show (if p i && decide (a + i < 8 * (flipN p a b (i + 1)).length) then flipB (flipN p a (flipN p a b (i + 1)) i) (a + i) else flipN p a (flipN p a b (i + 1)) i) = b
    rw [flipN_length]
    by_cases h : (p i && decide (a + i < 8 * b.length)) = true
    · have e : flipN p a b (i + 1) = flipB (flipN p a b i) (a + i) := by rw [flipN, if_pos h]
      rw [if_pos h, e, flipN_flipB, ih, flipB_twice]
    · have e : flipN p a b (i + 1) = flipN p a b i := by rw [flipN, if_neg h]
      rw [if_neg h, e, ih]
/-- Which bits are turned: the least one, and those of 'bits'. -/
def fsel (bs : Int) (i : Nat) : Bool := bits .and .u32 (bits .or .u32 (bs % 4294967296) 1 / 2 ^ i) 1 == 1
def flipAt (bit : Int) (n : Nat) : Nat := ((bit.tmod (8 * (n : Int)) + 8 * (n : Int)).tmod (8 * (n : Int))).toNat
theorem flipAt_at {bit : Int} {n : Nat} (h0 : n ≠ 0) (h1 : n ≤ 1000000) : (wrap64 (bit.tmod (8 * (n : Int)) + 8 * (n : Int))).tmod (8 * (n : Int)) = (flipAt bit n : Int) ∧ flipAt bit n < 8 * n := by
  have hp : (0 : Int) < 8 * (n : Int) := by omega
  have a1 := Int.tmod_lt_of_pos bit hp
  have a2 := Int.lt_tmod_of_pos bit hp
  have e : wrap64 (bit.tmod (8 * (n : Int)) + 8 * (n : Int)) = bit.tmod (8 * (n : Int)) + 8 * (n : Int) := by
    unfold wrap64
    omega
  have b1 := Int.tmod_nonneg (8 * (n : Int)) (show 0 ≤ bit.tmod (8 * (n : Int)) + 8 * (n : Int) by omega)
  have b2 := Int.tmod_lt_of_pos (bit.tmod (8 * (n : Int)) + 8 * (n : Int)) hp
  rw [e]
  unfold flipAt
  omega
def flipS (b : List UInt8) (bit bs : Int) : List UInt8 := flipN (fsel bs) (flipAt bit b.length) b 32
theorem flipS_length (b : List UInt8) (bit bs : Int) : (flipS b bit bs).length = b.length := flipN_length _ _ _ _
theorem flipS_nil (bit bs : Int) : flipS [] bit bs = [] := List.eq_nil_of_length_eq_zero (flipS_length _ _ _)
theorem flipS_twice (b : List UInt8) (bit bs : Int) : flipS (flipS b bit bs) bit bs = b := by
  unfold flipS
  rw [flipN_length]
  exact flipN_twice _ _ _ _
theorem flip_byte (x : UInt8) (k : Nat) (hk : k < 8) : bits .xor .u8 (x.toNat : Int) ((2 ^ k : Nat) : Int) = ((x ^^^ UInt8.ofNat (2 ^ k)).toNat : Int) := by
  have h2 : (2 ^ k : Nat) < 256 := by
    have := Nat.pow_lt_pow_right (a := 2) (by omega) hk
    omega
  rw [u8_xor_nat _ _ x.toNat_lt h2, UInt8.toNat_xor, UInt8.toNat_ofNat_of_lt' h2]
theorem flipB_set (b : List UInt8) (k : Nat) (h : k / 8 < b.length) : flipB b k = b.set (k / 8) (b[k / 8] ^^^ UInt8.ofNat (2 ^ (k % 8))) := by
  unfold flipB
  apply List.ext_getElem?
  intro i
  rw [List.getElem?_modify, List.getElem?_set]
  split
  · subst_vars; simp [h]
  · simp
end Go.Proofs.Ytkdjacmabeeceaa
