/-
A byte above bytes: what `|` leaves.
-/
import Derived.Test.YtpknhpfbinplgaaRcPart
import Derived.Laws.BitsLemmas
namespace Go.Proofs.Ytpknhpfbinplgaa
open Go.RowKit
theorem or_byte (a x k : Nat) (ha : a < 256 ^ k) (hx : x < 256) (hk : k < 4) : bits BinOp.or IntKind.i64 (a : Int) (wrap64 ((x : Int) * 2 ^ (8 * k))) = ((a + 256 ^ k * x : Nat) : Int) := by
  have e : (256 : Nat) ^ k = 2 ^ (8 * k) := by rw [Nat.pow_mul]
  have h1 : 256 ^ k ≤ 16777216 := by
    rcases k with _ | _ | _ | _ | k
    all_goals first | decide | omega
  have h2 : 256 ^ k * x < 4294967296 := by
    have : 256 ^ k * x ≤ 16777216 * 255 := Nat.mul_le_mul h1 (by omega)
    omega
  have hw : wrap64 ((x : Int) * 2 ^ (8 * k)) = ((256 ^ k * x : Nat) : Int) := by
    have : (x : Int) * 2 ^ (8 * k) = ((256 ^ k * x : Nat) : Int) := by rw [e]; push_cast; rw [Int.mul_comm]
    rw [this]
    unfold wrap64
    omega
  rw [hw]
  have h62 : (4294967296 : Nat) < 2 ^ 62 := by decide
  rw [(bits_nat .i64 62 (by decide) (fun n h0 h1 => by rw [IntKind.wrap_i64]; omega) a (256 ^ k * x) (by omega) (by omega)).2]
  rw [e] at ha ⊢
  rw [Nat.or_comm, ← Nat.two_pow_add_eq_or_of_lt ha x, Nat.add_comm]
end Go.Proofs.Ytpknhpfbinplgaa
