/-
Several texts in one.
-/
import Derived.Test.YteecmgonbdbhdaaGreatDoorComP0
import Derived.Lib.AppendZeros
import Derived.Deep.LoopGhost
import Derived.Laws.BitsLemmas
import Derived.Shelf.Abstract
import Derived.Laws.BytesArg
import Derived.Lib.Strings
import Derived.Lib.Slices
import Derived.Lib.Walk
import Derived.Lib.Bytes

/-
Numbers between two; whether a geometry is right.
-/
section
namespace Go.Proofs.YteecmgonbdbhdaaGreatDoor
open Go.RowKit
attribute [local go_sem ↓] Go.wp_at_zero Go.wp_at_succ

def inB (n lo hi : Int) : Bool := decide (lo ≤ n) && decide (n ≤ hi)
theorem inB_iff {n lo hi : Int} : inB n lo hi = true ↔ lo ≤ n ∧ n ≤ hi := by simp [inB]
def errV (b : Bool) : Value := .int .i64 (if b then 0 else 1)
def okG (g : Geo) : Bool := inB g.z 1 4 && inB g.d 1 4 && inB g.sp 0 2 && inB g.sl 14 30 && inB g.an 1 3
theorem okG_iff {g : Geo} : okG g = true ↔ (1 ≤ g.z ∧ g.z ≤ 4) ∧ (1 ≤ g.d ∧ g.d ≤ 4) ∧ (0 ≤ g.sp ∧ g.sp ≤ 2) ∧ (14 ≤ g.sl ∧ g.sl ≤ 30) ∧ (1 ≤ g.an ∧ g.an ≤ 3) := by
  simp only [okG, Bool.and_eq_true, inB_iff, and_assoc]

theorem gin_any (n lo hi : Int) (w : World) : Calls Tryz.prog 57 #[.int .i64 n, .int .i64 lo, .int .i64 hi] w fun e w' => e = .returned (.bool (inB n lo hi)) ∧ w' = w := by
  by_cases h1 : lo ≤ n
  · by_cases h2 : n ≤ hi
    · have hE := Lib.hid (show inB n lo hi = true by simp [inB, h1, h2])
      go_enter Tryz.func57, Tryz.ntmps57
      go_wp2
      go_ret
      rw [hE.out]
      exact ⟨rfl, rfl⟩
    · have hE := Lib.hid (show inB n lo hi = false by simp [inB, h2])
      go_enter Tryz.func57, Tryz.ntmps57
      go_wp2
      go_ret
      rw [hE.out]
      exact ⟨rfl, rfl⟩
  · have hE := Lib.hid (show inB n lo hi = false by simp [inB, h1])
    go_enter Tryz.func57, Tryz.ntmps57
    go_wp2
    go_ret
    rw [hE.out]
    exact ⟨rfl, rfl⟩

theorem rin_any (n lo hi : Int) (w : World) : Calls Tryz.prog 102 #[.int .i64 n, .int .i64 lo, .int .i64 hi] w fun e w' => e = .returned (.bool (inB n lo hi)) ∧ w' = w := by
  by_cases h1 : lo ≤ n
  · by_cases h2 : n ≤ hi
    · have hE := Lib.hid (show inB n lo hi = true by simp [inB, h1, h2])
      go_enter Tryz.func102, Tryz.ntmps102
      go_wp2
      go_ret
      rw [hE.out]
      exact ⟨rfl, rfl⟩
    · have hE := Lib.hid (show inB n lo hi = false by simp [inB, h2])
      go_enter Tryz.func102, Tryz.ntmps102
      go_wp2
      go_ret
      rw [hE.out]
      exact ⟨rfl, rfl⟩
  · have hE := Lib.hid (show inB n lo hi = false by simp [inB, h1])
    go_enter Tryz.func102, Tryz.ntmps102
    go_wp2
    go_ret
    rw [hE.out]
    exact ⟨rfl, rfl⟩

theorem rf1in_any (n lo hi : Int) (w : World) : Calls Tryz.prog 24 #[.int .i64 n, .int .i64 lo, .int .i64 hi] w fun e w' => e = .returned (.bool (inB n lo hi)) ∧ w' = w := by
  by_cases h1 : lo ≤ n
  · by_cases h2 : n ≤ hi
    · have hE := Lib.hid (show inB n lo hi = true by simp [inB, h1, h2])
      go_enter Tryz.func24, Tryz.ntmps24
      go_wp2
      go_ret
      rw [hE.out]
      exact ⟨rfl, rfl⟩
    · have hE := Lib.hid (show inB n lo hi = false by simp [inB, h2])
      go_enter Tryz.func24, Tryz.ntmps24
      go_wp2
      go_ret
      rw [hE.out]
      exact ⟨rfl, rfl⟩
  · have hE := Lib.hid (show inB n lo hi = false by simp [inB, h1])
    go_enter Tryz.func24, Tryz.ntmps24
    go_wp2
    go_ret
    rw [hE.out]
    exact ⟨rfl, rfl⟩

theorem rf15in_any (n lo hi : Int) (w : World) : Calls Tryz.prog 56 #[.int .i64 n, .int .i64 lo, .int .i64 hi] w fun e w' => e = .returned (.bool (inB n lo hi)) ∧ w' = w := by
  by_cases h1 : lo ≤ n
  · by_cases h2 : n ≤ hi
    · have hE := Lib.hid (show inB n lo hi = true by simp [inB, h1, h2])
      go_enter Tryz.func56, Tryz.ntmps56
      go_wp2
      go_ret
      rw [hE.out]
      exact ⟨rfl, rfl⟩
    · have hE := Lib.hid (show inB n lo hi = false by simp [inB, h2])
      go_enter Tryz.func56, Tryz.ntmps56
      go_wp2
      go_ret
      rw [hE.out]
      exact ⟨rfl, rfl⟩
  · have hE := Lib.hid (show inB n lo hi = false by simp [inB, h1])
    go_enter Tryz.func56, Tryz.ntmps56
    go_wp2
    go_ret
    rw [hE.out]
    exact ⟨rfl, rfl⟩

theorem rf8in_any (n lo hi : Int) (w : World) : Calls Tryz.prog 25 #[.int .i64 n, .int .i64 lo, .int .i64 hi] w fun e w' => e = .returned (.bool (inB n lo hi)) ∧ w' = w := by
  by_cases h1 : lo ≤ n
  · by_cases h2 : n ≤ hi
    · have hE := Lib.hid (show inB n lo hi = true by simp [inB, h1, h2])
      go_enter Tryz.func25, Tryz.ntmps25
      go_wp2
      go_ret
      rw [hE.out]
      exact ⟨rfl, rfl⟩
    · have hE := Lib.hid (show inB n lo hi = false by simp [inB, h2])
      go_enter Tryz.func25, Tryz.ntmps25
      go_wp2
      go_ret
      rw [hE.out]
      exact ⟨rfl, rfl⟩
  · have hE := Lib.hid (show inB n lo hi = false by simp [inB, h1])
    go_enter Tryz.func25, Tryz.ntmps25
    go_wp2
    go_ret
    rw [hE.out]
    exact ⟨rfl, rfl⟩

set_option maxHeartbeats 4000000 in
theorem gcheck_any (g : Geo) (w : World) : Calls Tryz.prog 39 #[gv g] w fun e w' => e = .returned (errV (okG g)) ∧ Below w.heap.size w w' := by
  have HB := Lib.hid ((Below.refl w.heap.size w).alloc (Nat.le_refl _) (.cells #[.int .i64 g.z, .int .i64 g.d, .int .i64 g.sp, .int .i64 g.sl, .int .i64 g.an] 23))
  unfold gv
  cases h0 : inB g.z 1 4 with
  | false =>
    have hE := Lib.hid (show okG g = false by simp [okG, h0])
    have c0 := fun w => gin_any g.z 1 4 w
    simp only [h0] at c0
    clear h0
    go_enter Tryz.func39, Tryz.ntmps39
    go_wp2_with (go_at_call 57; go_must (first | (with_reducible refine (c0 _).mono ?_)); rintro e w' ⟨rfl, rfl⟩)
    go_ret
    rw [hE.out]
    exact ⟨rfl, HB.out⟩
  | true =>
    cases h1 : inB g.d 1 4 with
    | false =>
      have hE := Lib.hid (show okG g = false by simp [okG, h0, h1])
      have c0 := fun w => gin_any g.z 1 4 w
      simp only [h0] at c0
      have c1 := fun w => gin_any g.d 1 4 w
      simp only [h1] at c1
      clear h0 h1
      go_enter Tryz.func39, Tryz.ntmps39
      go_wp2_with (go_at_call 57; go_must (first | (with_reducible refine (c0 _).mono ?_) | (with_reducible refine (c1 _).mono ?_)); rintro e w' ⟨rfl, rfl⟩)
      go_ret
      rw [hE.out]
      exact ⟨rfl, HB.out⟩
    | true =>
      cases h2 : inB g.sp 0 2 with
      | false =>
        have hE := Lib.hid (show okG g = false by simp [okG, h0, h1, h2])
        have c0 := fun w => gin_any g.z 1 4 w
        simp only [h0] at c0
        have c1 := fun w => gin_any g.d 1 4 w
        simp only [h1] at c1
        have c2 := fun w => gin_any g.sp 0 2 w
        simp only [h2] at c2
        clear h0 h1 h2
        go_enter Tryz.func39, Tryz.ntmps39
        go_wp2_with (go_at_call 57; go_must (first | (with_reducible refine (c0 _).mono ?_) | (with_reducible refine (c1 _).mono ?_) | (with_reducible refine (c2 _).mono ?_)); rintro e w' ⟨rfl, rfl⟩)
        go_ret
        rw [hE.out]
        exact ⟨rfl, HB.out⟩
      | true =>
        cases h3 : inB g.sl 14 30 with
        | false =>
          have hE := Lib.hid (show okG g = false by simp [okG, h0, h1, h2, h3])
          have c0 := fun w => gin_any g.z 1 4 w
          simp only [h0] at c0
          have c1 := fun w => gin_any g.d 1 4 w
          simp only [h1] at c1
          have c2 := fun w => gin_any g.sp 0 2 w
          simp only [h2] at c2
          have c3 := fun w => gin_any g.sl 14 30 w
          simp only [h3] at c3
          clear h0 h1 h2 h3
          go_enter Tryz.func39, Tryz.ntmps39
          go_wp2_with (go_at_call 57; go_must (first | (with_reducible refine (c0 _).mono ?_) | (with_reducible refine (c1 _).mono ?_) | (with_reducible refine (c2 _).mono ?_) | (with_reducible refine (c3 _).mono ?_)); rintro e w' ⟨rfl, rfl⟩)
          go_ret
          rw [hE.out]
          exact ⟨rfl, HB.out⟩
        | true =>
          cases h4 : inB g.an 1 3 with
          | false =>
            have hE := Lib.hid (show okG g = false by simp [okG, h0, h1, h2, h3, h4])
            have c0 := fun w => gin_any g.z 1 4 w
            simp only [h0] at c0
            have c1 := fun w => gin_any g.d 1 4 w
            simp only [h1] at c1
            have c2 := fun w => gin_any g.sp 0 2 w
            simp only [h2] at c2
            have c3 := fun w => gin_any g.sl 14 30 w
            simp only [h3] at c3
            have c4 := fun w => gin_any g.an 1 3 w
            simp only [h4] at c4
            clear h0 h1 h2 h3 h4
            go_enter Tryz.func39, Tryz.ntmps39
            go_wp2_with (go_at_call 57; go_must (first | (with_reducible refine (c0 _).mono ?_) | (with_reducible refine (c1 _).mono ?_) | (with_reducible refine (c2 _).mono ?_) | (with_reducible refine (c3 _).mono ?_) | (with_reducible refine (c4 _).mono ?_)); rintro e w' ⟨rfl, rfl⟩)
            go_ret
            rw [hE.out]
            exact ⟨rfl, HB.out⟩
          | true =>
            have hE := Lib.hid (show okG g = true by simp [okG, h0, h1, h2, h3, h4])
            have c0 := fun w => gin_any g.z 1 4 w
            simp only [h0] at c0
            have c1 := fun w => gin_any g.d 1 4 w
            simp only [h1] at c1
            have c2 := fun w => gin_any g.sp 0 2 w
            simp only [h2] at c2
            have c3 := fun w => gin_any g.sl 14 30 w
            simp only [h3] at c3
            have c4 := fun w => gin_any g.an 1 3 w
            simp only [h4] at c4
            clear h0 h1 h2 h3 h4
            go_enter Tryz.func39, Tryz.ntmps39
            go_wp2_with (go_at_call 57; go_must (first | (with_reducible refine (c0 _).mono ?_) | (with_reducible refine (c1 _).mono ?_) | (with_reducible refine (c2 _).mono ?_) | (with_reducible refine (c3 _).mono ?_) | (with_reducible refine (c4 _).mono ?_)); rintro e w' ⟨rfl, rfl⟩)
            go_ret
            rw [hE.out]
            exact ⟨rfl, HB.out⟩

set_option maxHeartbeats 4000000 in
theorem rgeom_any (g : Geo) (w : World) : Calls Tryz.prog 10 #[gv g] w fun e w' => e = .returned (.bool (okG g)) ∧ Below w.heap.size w w' := by
  have HB := Lib.hid ((Below.refl w.heap.size w).alloc (Nat.le_refl _) (.cells #[.int .i64 g.z, .int .i64 g.d, .int .i64 g.sp, .int .i64 g.sl, .int .i64 g.an] 23))
  unfold gv
  cases h0 : inB g.z 1 4 with
  | false =>
    have hE := Lib.hid (show okG g = false by simp [okG, h0])
    have c0 := fun w => rf1in_any g.z 1 4 w
    simp only [h0] at c0
    clear h0
    go_enter Tryz.func10, Tryz.ntmps10
    go_wp2_with (go_at_call 24; go_must (first | (with_reducible refine (c0 _).mono ?_)); rintro e w' ⟨rfl, rfl⟩)
    go_ret
    rw [hE.out]
    exact ⟨rfl, HB.out⟩
  | true =>
    cases h1 : inB g.d 1 4 with
    | false =>
      have hE := Lib.hid (show okG g = false by simp [okG, h0, h1])
      have c0 := fun w => rf1in_any g.z 1 4 w
      simp only [h0] at c0
      have c1 := fun w => rf1in_any g.d 1 4 w
      simp only [h1] at c1
      clear h0 h1
      go_enter Tryz.func10, Tryz.ntmps10
      go_wp2_with (go_at_call 24; go_must (first | (with_reducible refine (c0 _).mono ?_) | (with_reducible refine (c1 _).mono ?_)); rintro e w' ⟨rfl, rfl⟩)
      go_ret
      rw [hE.out]
      exact ⟨rfl, HB.out⟩
    | true =>
      cases h2 : inB g.sp 0 2 with
      | false =>
        have hE := Lib.hid (show okG g = false by simp [okG, h0, h1, h2])
        have c0 := fun w => rf1in_any g.z 1 4 w
        simp only [h0] at c0
        have c1 := fun w => rf1in_any g.d 1 4 w
        simp only [h1] at c1
        have c2 := fun w => rf1in_any g.sp 0 2 w
        simp only [h2] at c2
        clear h0 h1 h2
        go_enter Tryz.func10, Tryz.ntmps10
        go_wp2_with (go_at_call 24; go_must (first | (with_reducible refine (c0 _).mono ?_) | (with_reducible refine (c1 _).mono ?_) | (with_reducible refine (c2 _).mono ?_)); rintro e w' ⟨rfl, rfl⟩)
        go_ret
        rw [hE.out]
        exact ⟨rfl, HB.out⟩
      | true =>
        cases h3 : inB g.sl 14 30 with
        | false =>
          have hE := Lib.hid (show okG g = false by simp [okG, h0, h1, h2, h3])
          have c0 := fun w => rf1in_any g.z 1 4 w
          simp only [h0] at c0
          have c1 := fun w => rf1in_any g.d 1 4 w
          simp only [h1] at c1
          have c2 := fun w => rf1in_any g.sp 0 2 w
          simp only [h2] at c2
          have c3 := fun w => rf1in_any g.sl 14 30 w
          simp only [h3] at c3
          clear h0 h1 h2 h3
          go_enter Tryz.func10, Tryz.ntmps10
          go_wp2_with (go_at_call 24; go_must (first | (with_reducible refine (c0 _).mono ?_) | (with_reducible refine (c1 _).mono ?_) | (with_reducible refine (c2 _).mono ?_) | (with_reducible refine (c3 _).mono ?_)); rintro e w' ⟨rfl, rfl⟩)
          go_ret
          rw [hE.out]
          exact ⟨rfl, HB.out⟩
        | true =>
          cases h4 : inB g.an 1 3 with
          | false =>
            have hE := Lib.hid (show okG g = false by simp [okG, h0, h1, h2, h3, h4])
            have c0 := fun w => rf1in_any g.z 1 4 w
            simp only [h0] at c0
            have c1 := fun w => rf1in_any g.d 1 4 w
            simp only [h1] at c1
            have c2 := fun w => rf1in_any g.sp 0 2 w
            simp only [h2] at c2
            have c3 := fun w => rf1in_any g.sl 14 30 w
            simp only [h3] at c3
            have c4 := fun w => rf1in_any g.an 1 3 w
            simp only [h4] at c4
            clear h0 h1 h2 h3 h4
            go_enter Tryz.func10, Tryz.ntmps10
            go_wp2_with (go_at_call 24; go_must (first | (with_reducible refine (c0 _).mono ?_) | (with_reducible refine (c1 _).mono ?_) | (with_reducible refine (c2 _).mono ?_) | (with_reducible refine (c3 _).mono ?_) | (with_reducible refine (c4 _).mono ?_)); rintro e w' ⟨rfl, rfl⟩)
            go_ret
            rw [hE.out]
            exact ⟨rfl, HB.out⟩
          | true =>
            have hE := Lib.hid (show okG g = true by simp [okG, h0, h1, h2, h3, h4])
            have c0 := fun w => rf1in_any g.z 1 4 w
            simp only [h0] at c0
            have c1 := fun w => rf1in_any g.d 1 4 w
            simp only [h1] at c1
            have c2 := fun w => rf1in_any g.sp 0 2 w
            simp only [h2] at c2
            have c3 := fun w => rf1in_any g.sl 14 30 w
            simp only [h3] at c3
            have c4 := fun w => rf1in_any g.an 1 3 w
            simp only [h4] at c4
            clear h0 h1 h2 h3 h4
            go_enter Tryz.func10, Tryz.ntmps10
            go_wp2_with (go_at_call 24; go_must (first | (with_reducible refine (c0 _).mono ?_) | (with_reducible refine (c1 _).mono ?_) | (with_reducible refine (c2 _).mono ?_) | (with_reducible refine (c3 _).mono ?_) | (with_reducible refine (c4 _).mono ?_)); rintro e w' ⟨rfl, rfl⟩)
            go_ret
            rw [hE.out]
            exact ⟨rfl, HB.out⟩

def num32 (n : Int) : Bool := inB n 0 4294967295
theorem num_any (n : Int) (w : World) : Calls Tryz.prog 118 #[.int .i64 n] w fun e w' => e = .returned (.bool (num32 n)) ∧ w' = w := by
  by_cases h1 : 0 ≤ n
  · by_cases h2 : n ≤ 4294967295
    · have hE := Lib.hid (show num32 n = true by simp [num32, inB, h1, h2])
      go_enter Tryz.func118, Tryz.ntmps118
      go_wp2
      go_ret
      rw [hE.out]
      exact ⟨rfl, rfl⟩
    · have hE := Lib.hid (show num32 n = false by simp [num32, inB, h2])
      go_enter Tryz.func118, Tryz.ntmps118
      go_wp2
      go_ret
      rw [hE.out]
      exact ⟨rfl, rfl⟩
  · have hE := Lib.hid (show num32 n = false by simp [num32, inB, h1])
    go_enter Tryz.func118, Tryz.ntmps118
    go_wp2
    go_ret
    rw [hE.out]
    exact ⟨rfl, rfl⟩
end Go.Proofs.YteecmgonbdbhdaaGreatDoor
end

/-
Package pack: a number in a type of so many bytes, its bytes.
-/
section
namespace Go.Proofs.YteecmgonbdbhdaaGreatDoor
open Go.RowKit
attribute [local go_sem ↓] Go.wp_at_zero Go.wp_at_succ

def limS (size : Int) : Int := if size = 1 then 256 else if size = 2 then 65536 else 4294967296
def szOk (size : Int) : Prop := size = 1 ∨ size = 2 ∨ size = 4
def sizedV (n size : Int) : Value := if size = 1 then .iface 5 (.int .u8 n) else if size = 2 then .iface 182 (.int .u16 n) else .iface 175 (.int .u32 n)
theorem as8 (w : World) (v : Value) : (Instr.typeAssert (.iface 5 v) 20 5 true).run Tryz.prog w = .ok (.tuple #[v, .bool true]) w := by kernel_rfl
theorem as8no16 (w : World) (v : Value) : (Instr.typeAssert (.iface 182 v) 20 5 true).run Tryz.prog w = .ok (.tuple #[.int .u8 0, .bool false]) w := by kernel_rfl
theorem as8no32 (w : World) (v : Value) : (Instr.typeAssert (.iface 175 v) 20 5 true).run Tryz.prog w = .ok (.tuple #[.int .u8 0, .bool false]) w := by kernel_rfl
theorem as16 (w : World) (v : Value) : (Instr.typeAssert (.iface 182 v) 20 182 true).run Tryz.prog w = .ok (.tuple #[v, .bool true]) w := by kernel_rfl
theorem as16no32 (w : World) (v : Value) : (Instr.typeAssert (.iface 175 v) 20 182 true).run Tryz.prog w = .ok (.tuple #[.int .u16 0, .bool false]) w := by kernel_rfl
theorem as32 (w : World) (v : Value) : (Instr.typeAssert (.iface 175 v) 20 175 false).run Tryz.prog w = .ok v w := by kernel_rfl
attribute [local go_sem] as8 as8no16 as8no32 as16 as16no32 as32
/-- A number's bytes, the least one first. -/
def leB : Nat → Nat → List UInt8
  | 0, _ => []
  | k + 1, n => UInt8.ofNat (n % 256) :: leB k (n / 256)
theorem leB_len : ∀ (k n : Nat), (leB k n).length = k
  | 0, _ => rfl
  | k + 1, n => by simp [leB, leB_len k]

theorem OwR.litB (w : World) (M : Ms) (l : List UInt8) (hl : l.length ≤ 1000) : OwR (w.alloc (.cells (l.map fun x => Value.int .u8 x.toNat).toArray 5)) M w.heap.size 5 (.slice (some ⟨w.heap.size, 0, none⟩) l.length l.length) l := by
  refine ⟨l.map fun x => Value.int .u8 x.toNat, ⟨by simp [Rp.sz], .inr ⟨w.heap.size, l.length, _, rfl, Nat.le_refl _, heap_alloc_new w _, Nat.le_refl _, by unfold maxLen; omega, by simp [Rp.sz], ?_⟩⟩, ?_⟩
  · simp only [Rp.sz, Nat.mul_one]
    exact List.take_of_length_le (by simp)
  · clear hl
    induction l with
    | nil => rfl
    | cons x l ih => exact ⟨[.int .u8 x.toNat], _, rfl, rfl, rfl, ih⟩

set_option maxHeartbeats 4000000 in
theorem sized_any (n size : Int) (w : World) (hs : szOk size) : Calls Tryz.prog 104 #[.int .i64 n, .int .i64 size] w fun e w' => e = .returned (if 0 ≤ n ∧ n < limS size then sizedV n size else .nilIface) ∧ w' = w := by
  by_cases h0 : 0 ≤ n
  · by_cases h1 : n < limS size
    · have w8 : size = 1 → IntKind.u8.wrap n = n := fun h => by subst h; simp [limS] at h1; rw [IntKind.wrap_u8]; omega
      have w16 : size = 2 → IntKind.u16.wrap n = n := fun h => by subst h; simp [limS] at h1; rw [IntKind.wrap_u16]; omega
      have w32 : size = 4 → IntKind.u32.wrap n = n := fun h => by subst h; simp [limS] at h1; rw [IntKind.wrap_u32]; omega
      have hE := Lib.hid (show (if 0 ≤ n ∧ n < limS size then sizedV n size else .nilIface) = sizedV n size from if_pos ⟨h0, h1⟩)
      rw [hE.out]
      rcases hs with rfl | rfl | rfl
      · have h2 : n < 256 := h1
        have w0 := w8 rfl
        clear h1 w8 w16 w32 hE
        go_enter Tryz.func104, Tryz.ntmps104
        go_wp2
        go_ret
        exact ⟨rfl, rfl⟩
      · have h2 : n < 65536 := h1
        have w0 := w16 rfl
        clear h1 w8 w16 w32 hE
        go_enter Tryz.func104, Tryz.ntmps104
        go_wp2
        go_ret
        exact ⟨rfl, rfl⟩
      · have h2 : n < 4294967296 := h1
        have w0 := w32 rfl
        clear h1 w8 w16 w32 hE
        go_enter Tryz.func104, Tryz.ntmps104
        go_wp2
        go_ret
        exact ⟨rfl, rfl⟩
    · have hE := Lib.hid (show (if 0 ≤ n ∧ n < limS size then sizedV n size else .nilIface) = .nilIface from if_neg (by omega))
      rw [hE.out]
      rcases hs with rfl | rfl | rfl
      · have h2 : ¬ n < 256 := h1
        clear h1 hE
        go_enter Tryz.func104, Tryz.ntmps104
        go_wp2
        go_ret
        exact ⟨rfl, rfl⟩
      · have h2 : ¬ n < 65536 := h1
        clear h1 hE
        go_enter Tryz.func104, Tryz.ntmps104
        go_wp2
        go_ret
        exact ⟨rfl, rfl⟩
      · have h2 : ¬ n < 4294967296 := h1
        clear h1 hE
        go_enter Tryz.func104, Tryz.ntmps104
        go_wp2
        go_ret
        exact ⟨rfl, rfl⟩
  · have hE := Lib.hid (show (if 0 ≤ n ∧ n < limS size then sizedV n size else .nilIface) = .nilIface from if_neg (by omega))
    rw [hE.out]
    clear hE
    rcases hs with rfl | rfl | rfl
    · go_enter Tryz.func104, Tryz.ntmps104
      go_wp2
      go_ret
      exact ⟨rfl, rfl⟩
    · go_enter Tryz.func104, Tryz.ntmps104
      go_wp2
      go_ret
      exact ⟨rfl, rfl⟩
    · go_enter Tryz.func104, Tryz.ntmps104
      go_wp2
      go_ret
      exact ⟨rfl, rfl⟩

set_option maxHeartbeats 4000000 in
set_option maxRecDepth 100000 in
theorem bytesOf_any (n size : Int) (w : World) (M : Ms) (hs : szOk size) (h0 : 0 ≤ n) (h1 : n < limS size) : Calls Tryz.prog 106 #[sizedV n size] w fun e w' => ∃ r, e = .returned r ∧ OwR w' M w.heap.size 5 r (leB size.toNat n.toNat) ∧ Below w.heap.size w w' := by
  have hB := fun o => (Below.refl w.heap.size w).alloc (Nat.le_refl _) o
  obtain ⟨m, rfl⟩ : ∃ m : Nat, n = m := ⟨n.toNat, by omega⟩
  rcases hs with rfl | rfl | rfl
  · have h2 : (m : Int) < 256 := h1
    have hL := Lib.hid (OwR.litB w M (leB 1 m) (by rw [leB_len]; omega))
    have e : (UInt8.ofNat (m % 256)).toNat = m := by simp; omega
    simp only [leB, List.map_cons, List.map_nil, e, List.length_cons, List.length_nil] at hL
    have HB := Lib.hid hB
    clear hB h1 e h0
    unfold sizedV
    simp only [if_true]
    go_enter Tryz.func106, Tryz.ntmps106
    go_wp2
    go_ret
    exact ⟨_, rfl, hL.out, HB.out _⟩
  · have h2 : (m : Int) < 65536 := h1
    have hL := Lib.hid (OwR.litB w M (leB 2 m) (by rw [leB_len]; omega))
    have e0 : ((UInt8.ofNat (m % 256)).toNat : Int) = (m : Int) % 256 := by simp
    have e1 : ((UInt8.ofNat (m / 256 % 256)).toNat : Int) = (m : Int) / 256 := by simp; omega
    simp only [leB, List.map_cons, List.map_nil, e0, e1, List.length_cons, List.length_nil] at hL
    have HB := Lib.hid hB
    clear hB h1 e0 e1 h0
    unfold sizedV
    simp only [if_true]
    rw [if_neg (by decide)]
    go_enter Tryz.func106, Tryz.ntmps106
    go_wp2
    go_ret
    exact ⟨_, rfl, hL.out, HB.out _⟩
  · have h2 : (m : Int) < 4294967296 := h1
    have hL := Lib.hid (OwR.litB w M (leB 4 m) (by rw [leB_len]; omega))
    have e0 : ((UInt8.ofNat (m % 256)).toNat : Int) = (m : Int) % 256 := by simp
    have e1 : ((UInt8.ofNat (m / 256 % 256)).toNat : Int) = (m : Int) / 256 % 256 := by simp
    have e2 : ((UInt8.ofNat (m / 256 / 256 % 256)).toNat : Int) = (m : Int) / 65536 % 256 := by simp; omega
    have e3 : ((UInt8.ofNat (m / 256 / 256 / 256 % 256)).toNat : Int) = (m : Int) / 16777216 := by simp; omega
    simp only [leB, List.map_cons, List.map_nil, e0, e1, e2, e3, List.length_cons, List.length_nil] at hL
    have HB := Lib.hid hB
    clear hB h1 e0 e1 e2 e3 h0
    unfold sizedV
    rw [if_neg (by decide), if_neg (by decide)]
    go_enter Tryz.func106, Tryz.ntmps106
    go_wp2
    go_ret
    exact ⟨_, rfl, hL.out, HB.out _⟩
end Go.Proofs.YteecmgonbdbhdaaGreatDoor
end

/-
slices.Grow of nothing; slices.Concat of two.
-/
section
namespace Go.Proofs.YteecmgonbdbhdaaGreatDoor
open Go.RowKit
attribute [local go_sem ↓] Go.wp_at_zero Go.wp_at_succ

set_option maxRecDepth 100000 in
set_option maxHeartbeats 4000000 in
theorem grow_any (n : Nat) (w : World) (M : Ms) (hn : n ≤ 1000000000) : Calls Tryz.prog 112 #[.slice none 0 0, .int .i64 n] w fun e w' => ∃ r, e = .returned r ∧ OwR w' M w.heap.size 5 r ([] : List UInt8) ∧ Below w.heap.size w w' := by
  have hn0 : ¬ (n : Int) < 0 := by omega
  by_cases h0 : n = 0
  · subst h0
    clear hn
    go_enter Tryz.func112, Tryz.ntmps112
    go_wp2
    go_ret
    exact ⟨_, rfl, OwR.nil _ _ _ _, Below.refl _ _⟩
  · obtain ⟨i0, hi0, hz0, hz1, hz2⟩ := info_parts (show (Tryz.prog.info? 5).map (fun i => (i.zero, i.size, i.bytes)) = some (some (.int .u8 0), 1, 1) by kernel_rfl)
    have hrz : ∀ ty, _ := fun ty => Lib.run_append_nil_zeros (P := Tryz.prog) w 52 3 ty 5 i0 _ .i64 .i64 Tryz.underlying52 Tryz.underlying3 hi0 hz0 n (by omega) (by omega) (by omega) (by rw [hz2]; omega)
    have hG := grownCap_ge w n 0 5
    have hGm := grownCap_le_maxLen w n 0 5 (by unfold maxLen; omega)
    obtain ⟨G, hGe⟩ : ∃ G, G = grownCap w n 0 5 := ⟨_, rfl⟩
    rw [← hGe] at hG hGm
    simp only [← hGe] at hrz
    obtain ⟨Z, hZ⟩ : ∃ Z, Z = Builtin.zeroCells (Value.int .u8 0).cells n ++ Builtin.zeroCells (Value.int .u8 0).cells (G - n) := ⟨_, rfl⟩
    have hZs : Z.size = G * 1 := by
      rw [hZ, Array.size_append, size_zeroCells, size_zeroCells]
      simp [Value.cells]
      omega
    rw [← hZ] at hrz
    have hO := Lib.hid (show OwR (w.drew.alloc (.cells Z 5)) M w.heap.size 5 (.slice (some ⟨w.heap.size, 0, none⟩) 0 G) ([] : List UInt8) from ⟨[], World.ownsRow_made w.drew Z G (Nat.le_refl _) hGm hZs, rfl⟩)
    have hB := Lib.hid ((below_drew w).trans ((Below.refl w.drew.heap.size w.drew).alloc (Nat.le_refl _) (.cells Z 5)))
    have h0' : (0 : Int) < n := by omega
    unfold maxLen at hGm
    have hGi : (n : Int) ≤ G := by omega
    clear hi0 hz0 hz1 hz2 hZ hZs hGe h0 hn
    go_enter Tryz.func112, Tryz.ntmps112
    go_wp2_with (with_reducible refine Lib.wpList_append_run w rfl (.tmp 20) (.tmp 21) _ _ rfl _ _ rfl rfl _ _ (hrz _) ?_)
    go_ret
    exact ⟨_, rfl, hO.out, hB.out⟩
theorem row_at {α : Type} [Rp α] {w : World} {M : Ms} {a : Option Addr} {n c k : Nat} {l : List (List α)} (h : SlR w M (.slice a n c) l) (hk : k < l.length) : ∃ b off A C, a = some ⟨b, off, none⟩ ∧ ¬ M b ∧ w.cell? ⟨b, off + k, none⟩ = some (.slice A l[k].length C) ∧ SlR w M (.slice A l[k].length C) l[k] := by
  obtain ⟨b, off, cs, rfl, hm, he, hc⟩ := h.at_ hk
  obtain ⟨v, rfl, hv⟩ := he
  obtain ⟨A, C, rfl⟩ := hv.form
  refine ⟨b, off, A, C, rfl, hm, ?_, hv⟩
  have := hc 0 _ rfl
  simpa [Rp.sz] using this
theorem Keep.own {α : Type} [Rp α] {w w4 : World} {M : Ms} {e : TypeId} {v : Value} {L : List α} (hb : Below w.heap.size w w4) (ho : OwR w4 M w.heap.size e v L) : Keep w noM w4 (fun b => noM b ∨ v.ownBlock = some b) := fun b hlt _ =>
  ⟨fun h => h.elim (fun h => h) (fun h => by have := ho.own_ge h; omega), hb.block b hlt⟩
theorem flat_step {α : Type} {ls : List (List α)} {k : Nat} (hk : k < ls.length) : (ls.take (k + 1)).flatten = (ls.take k).flatten ++ ls[k] := by
  rw [List.take_add_one, List.getElem?_eq_getElem hk, List.flatten_append]; simp
theorem flat_le {α : Type} {ls : List (List α)} (k : Nat) : (ls.take k).flatten.length ≤ ls.flatten.length := by
  conv => rhs; rw [← List.take_append_drop k ls]
  rw [List.flatten_append, List.length_append]; omega

set_option maxRecDepth 100000 in
set_option maxHeartbeats 8000000 in
theorem concat_any (v : Value) (ls : List (List UInt8)) (w : World) (M Mi : Ms) (h : SlR w Mi v ls) (hl : ls.flatten.length ≤ 1000000000) (hn : ls.length ≤ 1000000) :
    Calls Tryz.prog 105 #[v] w fun e w' => ∃ r, e = .returned r ∧ OwR w' M w.heap.size 5 r ls.flatten ∧ Below w.heap.size w w' := by
  obtain ⟨a, c, rfl⟩ := h.form
  have H := Lib.hid h.bare
  have HL := Lib.hid hl
  clear h hl
  go_enter Tryz.func105, Tryz.ntmps105
  go_wp2
  go_loopg [3, 11] ls.length (fun g s3 s11 wr => ∃ k s : Nat, s11 = .int .i64 k ∧ s3 = .int .i64 s ∧ k ≤ ls.length ∧ ls.length - k ≤ g ∧ Hid (s = (ls.take k).flatten.length) ∧ wr = w)
  case atStart => exact ⟨0, 0, rfl, rfl, Nat.zero_le _, by omega, Lib.hid (by simp), rfl⟩
  case round =>
    obtain ⟨k, s, rfl, rfl, hkl, hg, hs, rfl⟩ := hrel
    by_cases hlt : k < ls.length
    · obtain ⟨b, off, A, C, rfl, -, x1, -⟩ := row_at H.out hlt
      have hlt' : (k : Int) < ls.length := by omega
      have hst := Lib.hid (flat_step hlt)
      have hb : s + ls[k].length ≤ 1000000000 := by
        have h1 := flat_le (ls := ls) (k + 1)
        rw [hst.out, List.length_append, ← hs.out] at h1
        have := HL.out
        omega
      have hw1 : IntKind.i64.wrap ((s : Int) + ls[k].length) = ((s + ls[k].length : Nat) : Int) := by rw [IntKind.wrap_i64]; omega
      have hw0 : ¬ (((s + ls[k].length : Nat) : Int) < 0) := by omega
      go_wp2
      go_roundg (ls.length - (k + 1))
      case measure => omega
      case rel => exact ⟨k + 1, s + ls[k].length, by go_num, by first | rfl | go_num, by omega, by omega, Lib.hid (by rw [hst.out, List.length_append, hs.out]), rfl⟩
    · obtain rfl : k = ls.length := by omega
      have hb : s ≤ 1000000000 := by
        have := hs.out
        rw [List.take_length] at this
        have := HL.out
        omega
      obtain ⟨w0, rfl⟩ : ∃ w0, w0 = wr := ⟨_, rfl⟩
      have hgr := Lib.hid (grow_any s w0 noM hb)
      clear hb hs
      go_wp2_with (go_at_call 112; go_must (with_reducible refine hgr.out.mono ?_); rintro e w2 ⟨r, rfl, ho2, hB2⟩)
      have HO := Lib.hid (And.intro ho2 hB2)
      clear ho2 hB2 hgr
      go_loopg [6, 27] ls.length (fun g s6 s27 w3 => ∃ k : Nat, s27 = .int .i64 k ∧ k ≤ ls.length ∧ ls.length - k ≤ g ∧ Hid (OwR w3 noM w0.heap.size 5 s6 ((ls.take k).flatten) ∧ Below w0.heap.size w0 w3))
      case atStart => exact ⟨0, rfl, Nat.zero_le _, by omega, Lib.hid (by simpa using HO.out)⟩
      case round =>
        obtain ⟨k, rfl, hkl, hg, hI⟩ := hrel
        by_cases hlt : k < ls.length
        · obtain ⟨ho, hB⟩ := hI.out
          obtain ⟨b, off, A, C, rfl, -, x0, x2⟩ := row_at H.out hlt
          have x1 := (Keep.below (M := noM) hB).cell (fun h => h) x0
          have hS := Lib.hid (x2.mono (Keep.own hB ho))
          have O3 := Lib.hid ho
          have HB3 := Lib.hid hB
          have hlt' : (k : Int) < ls.length := by omega
          have hst := Lib.hid (flat_step hlt)
          have hb : ((ls.take k).flatten).length + ls[k].length ≤ 1000000000 := by
            have h1 := flat_le (ls := ls) (k + 1)
            rw [hst.out, List.length_append] at h1
            have := HL.out
            omega
          clear x0 x2 ho hB hI
          go_wp2_with (at_builtin; go_must (refine wpList_append_R (α := UInt8) (M := noM) (base := w0.heap.size) (l := (ls.take k).flatten) (m := ls[k]) rfl (by rfl) tyB (by rfl) O3.out (by rfl) hS.out hb HB3.out.size ?_); intro v4 w4 ho4 hg4 hat4)
          go_roundg (ls.length - (k + 1))
          case measure => omega
          case rel => exact ⟨k + 1, by go_num, by omega, by omega, Lib.hid ⟨by rw [hst.out]; exact ho4, HB3.out.grown hg4 HB3.out.size (fun b e => O3.out.own_ge e)⟩⟩
        · obtain rfl : k = ls.length := by omega
          obtain ⟨ho, hB⟩ := hI.out
          rw [List.take_length] at ho
          have HF := Lib.hid (And.intro (OwR.plain (M' := M) (fun _ _ _ _ _ h => h) ho) hB)
          clear ho hB hI
          go_wp2
          go_ret
          exact ⟨_, rfl, HF.out.1, HF.out.2⟩
end Go.Proofs.YteecmgonbdbhdaaGreatDoor
end

/-
pack.Put.
-/
section
namespace Go.Proofs.YteecmgonbdbhdaaGreatDoor
open Go.RowKit
attribute [local go_sem ↓] Go.wp_at_zero Go.wp_at_succ

theorem OwR.pair {w : World} {v1 v2 : Value} {l1 l2 : List UInt8} (h1 : SlR w noM v1 l1) (h2 : SlR w noM v2 l2) (t : TypeId) : OwR (w.alloc (.cells #[v1, v2] t)) noM w.heap.size t (.slice (some ⟨w.heap.size, 0, none⟩) 2 2) [l1, l2] :=
  ⟨[v1, v2], ⟨rfl, .inr ⟨_, 2, _, rfl, Nat.le_refl _, heap_alloc_new w _, Nat.le_refl _, by unfold maxLen; omega, rfl, rfl⟩⟩, ⟨[v1], [v2], rfl, rfl, ⟨v1, rfl, h1.mono Keep.ownNew⟩, ⟨[v2], [], rfl, rfl, ⟨v2, rfl, h2.mono Keep.ownNew⟩, rfl⟩⟩⟩
theorem sized_iface (n size : Int) : ∃ t u, sizedV n size = .iface t u := by
  unfold sizedV
  split
  · exact ⟨_, _, rfl⟩
  · split <;> exact ⟨_, _, rfl⟩

set_option maxRecDepth 100000 in
set_option maxHeartbeats 8000000 in
theorem put_any (v : Value) (l : List UInt8) (n size : Int) (w : World) (M Mi : Ms) (h : SlR w Mi v l) (hs : szOk size) (hl : l.length ≤ 1000000) (h0 : 0 ≤ n) (h1 : n < limS size) :
    Calls Tryz.prog 92 #[v, .int .i64 n, .int .i64 size] w fun e w' => ∃ r, e = .returned (.tuple #[r, .int .i64 0]) ∧ OwR w' M w.heap.size 5 r (l ++ leB size.toNat n.toNat) ∧ Below w.heap.size w w' := by
  obtain ⟨a, c, rfl⟩ := h.form
  have H := Lib.hid h.bare
  have hsz := Lib.hid (sized_any n size w hs)
  rw [if_pos ⟨h0, h1⟩] at hsz
  have hby := Lib.hid (bytesOf_any n size w noM hs h0 h1)
  obtain ⟨t, u, e⟩ := sized_iface n size
  rw [e] at hsz hby
  have hlb : (leB size.toNat n.toNat).length ≤ 4 := by rw [leB_len]; rcases hs with rfl | rfl | rfl <;> decide
  obtain ⟨L, hL⟩ : ∃ L, L = leB size.toNat n.toNat := ⟨_, rfl⟩
  rw [← hL] at hby hlb ⊢
  clear e hs h0 h1 h hL
  go_enter Tryz.func92, Tryz.ntmps92
  go_wp2_with fail
  ((with_reducible refine hsz.out.mono ?_); rintro e w1 ⟨rfl, rfl⟩)
  go_wp2_with fail
  ((with_reducible refine hby.out.mono ?_); rintro e w2 ⟨r1, rfl, ho1, hB1⟩)
  obtain ⟨A1, C1, rfl⟩ := ho1.form
  have HB1 := Lib.hid hB1
  have HA := Lib.hid ((Below.refl w2.heap.size w2).alloc (Nat.le_refl _) (.cells #[.slice a l.length c, .slice A1 L.length C1] 52))
  have hcc := Lib.hid (concat_any _ [l, L] (w2.alloc (.cells #[.slice a l.length c, .slice A1 L.length C1] 52)) M noM ((OwR.pair (H.out.mono (Keep.below hB1)) (ho1.sl (fun _ _ h => h)) 52).sl (fun _ _ h => h)) (by simp; omega) (by simp))
  clear ho1 hB1 hby hsz
  go_wp2_with fail
  ((with_reducible refine hcc.out.mono ?_); rintro e w3 ⟨r3, rfl, ho3, hB3⟩)
  have HO := Lib.hid (ho3.mono_base (base' := w1.heap.size) (Nat.le_trans HB1.out.size HA.out.size))
  have HF := Lib.hid (HB1.out.trans ((HA.out.trans (hB3.mono HA.out.size)).mono HB1.out.size))
  clear ho3 hB3 hcc
  go_wp2
  go_ret2
  refine ⟨_, rfl, ?_, HF.out⟩
  have := HO.out
  simpa using this
end Go.Proofs.YteecmgonbdbhdaaGreatDoor
end

/-
pack.Row, pack.Part.
-/
section
namespace Go.Proofs.YteecmgonbdbhdaaGreatDoor
open Go.RowKit
attribute [local go_sem ↓] Go.wp_at_zero Go.wp_at_succ

def rowB : List Int → List Int → List UInt8
  | n :: ns, s :: ss => leB s.toNat n.toNat ++ rowB ns ss
  | _, _ => []
theorem rowB_step : ∀ (ns ss : List Int) (k : Nat) (h1 : k < ns.length) (h2 : k < ss.length), rowB (ns.take (k + 1)) (ss.take (k + 1)) = rowB (ns.take k) (ss.take k) ++ leB ss[k].toNat ns[k].toNat
  | n :: ns, s :: ss, 0, _, _ => by simp [rowB]
  | n :: ns, s :: ss, k + 1, h1, h2 => by
    have := rowB_step ns ss k (by simpa using h1) (by simpa using h2)
    simp only [List.take_succ_cons, rowB, List.getElem_cons_succ, List.append_assoc]
    rw [this]
theorem rowB_len : ∀ (ns ss : List Int), (∀ s ∈ ss, szOk s) → (rowB ns ss).length ≤ 4 * ss.length
  | [], ss, _ => by simp [rowB]
  | n :: ns, [], _ => by simp [rowB]
  | n :: ns, s :: ss, h => by
    have := rowB_len ns ss (fun x hx => h x (by simp [hx]))
    have h1 : s.toNat ≤ 4 := by rcases h s (by simp) with rfl | rfl | rfl <;> decide
    simp only [rowB, List.length_append, leB_len, List.length_cons]
    omega

set_option maxRecDepth 100000 in
set_option maxHeartbeats 8000000 in
theorem row_any (v1 v2 : Value) (ns ss : List Int) (w : World) (M M1 M2 : Ms) (h1 : SlR w M1 v1 ns) (h2 : SlR w M2 v2 ss) (hl : ns.length = ss.length) (hn : ns.length ≤ 1000)
    (hf : ∀ k (a : k < ns.length) (b : k < ss.length), szOk ss[k] ∧ 0 ≤ ns[k] ∧ ns[k] < limS ss[k]) :
    Calls Tryz.prog 89 #[v1, v2] w fun e w' => ∃ r, e = .returned (.tuple #[r, .int .i64 0]) ∧ OwR w' M w.heap.size 5 r (rowB ns ss) ∧ Below w.heap.size w w' := by
  obtain ⟨a1, c1, rfl⟩ := h1.form
  obtain ⟨a2, c2, rfl⟩ := h2.form
  have H1 := Lib.hid h1.bare
  have H2 := Lib.hid h2.bare
  have HF := Lib.hid hf
  have hlen' : ((ns.length : Int) != ss.length) = false := by simp [hl]
  have Hl := Lib.hid hl
  have Hss : Hid (∀ s ∈ ss, szOk s) := Lib.hid fun s hs => by
    obtain ⟨k, hk, rfl⟩ := List.getElem_of_mem hs
    exact (hf k (by omega) hk).1
  clear h1 h2 hf hl
  go_enter Tryz.func89, Tryz.ntmps89
  go_wp2
  clear hlen'
  go_loopg [6, 18] ns.length (fun g s6 s18 wr => ∃ k : Nat, s18 = .int .i64 k ∧ k ≤ ns.length ∧ ns.length - k ≤ g ∧ Hid (OwR wr noM w.heap.size 5 s6 (rowB (ns.take k) (ss.take k)) ∧ Below w.heap.size w wr))
  case atStart => exact ⟨0, rfl, Nat.zero_le _, by omega, Lib.hid ⟨OwR.nil _ _ _ _, Below.refl _ _⟩⟩
  case round =>
    obtain ⟨k, rfl, hkl, hg, hI⟩ := hrel
    by_cases hlt : k < ns.length
    · obtain ⟨ho, hB⟩ := hI.out
      have hl := Hl.out
      have hlt2 : k < ss.length := by omega
      have hl2 : (ss.take k).length ≤ 1000 := by rw [List.length_take]; omega
      obtain ⟨b1, o1, rfl, -, x1⟩ := int_at (H1.out.mono (Keep.below hB)) hlt
      obtain ⟨b2, o2, rfl, -, x2⟩ := int_at (H2.out.mono (Keep.below hB)) hlt2
      have hlt' : (k : Int) < ns.length := by omega
      have hlt2' : (k : Int) < ss.length := by omega
      obtain ⟨f1, f2, f3⟩ := HF.out k hlt hlt2
      have hle := rowB_len (ns.take k) (ss.take k) (fun s hs => Hss.out s (List.mem_of_mem_take hs))
      have hp := Lib.hid (put_any _ _ ns[k] ss[k] wr noM noM (ho.sl (fun _ _ h => h)) f1 (by omega) f2 f3)
      have hst := Lib.hid (rowB_step ns ss k hlt hlt2)
      have HB := Lib.hid hB
      clear f1 f2 f3 ho hB hI hle hl hl2
      go_wp2_with (go_at_call 92; go_must (with_reducible refine hp.out.mono ?_); rintro e w2 ⟨r, rfl, ho2, hB2⟩)
      go_roundg (ns.length - (k + 1))
      case measure => omega
      case rel => exact ⟨k + 1, by go_num, by omega, by omega, Lib.hid ⟨by rw [hst.out]; exact ho2.mono_base HB.out.size, HB.out.trans (hB2.mono HB.out.size)⟩⟩
    · obtain rfl : k = ns.length := by omega
      obtain ⟨ho, hB⟩ := hI.out
      rw [List.take_length, Hl.out, List.take_length] at ho
      have HX := Lib.hid (And.intro (OwR.plain (M' := M) (fun _ _ _ _ _ h => h) ho) hB)
      clear ho hB hI
      go_wp2
      go_ret2
      exact ⟨_, rfl, HX.out.1, HX.out.2⟩
end Go.Proofs.YteecmgonbdbhdaaGreatDoor
end

/-
pack.Part.
-/
section
namespace Go.Proofs.YteecmgonbdbhdaaGreatDoor
open Go.RowKit
attribute [local go_sem ↓] Go.wp_at_zero Go.wp_at_succ

set_option maxRecDepth 100000 in
set_option maxHeartbeats 8000000 in
theorem part_any (v : Value) (l : List UInt8) (w : World) (M Mi : Ms) (h : SlR w Mi v l) (hl : l.length ≤ 255) :
    Calls Tryz.prog 91 #[v] w fun e w' => ∃ r, e = .returned (.tuple #[r, .int .i64 0]) ∧ OwR w' M w.heap.size 5 r (UInt8.ofNat l.length :: l) ∧ Below w.heap.size w w' := by
  obtain ⟨a, c, rfl⟩ := h.form
  have hL := OwR.litB w noM [UInt8.ofNat l.length] (by simp)
  have e : ((UInt8.ofNat l.length).toNat : Int) = (l.length : Int) := by simp; omega
  simp only [List.map_cons, List.map_nil, e, List.length_cons, List.length_nil] at hL
  have hL := Lib.hid hL
  have hS := Lib.hid (h.bare.mono (Keep.ownNew (o := .cells #[Value.int .u8 (l.length : Int)] 5) (n := 1) (c := 1)))
  have HB := Lib.hid ((Below.refl w.heap.size w).alloc (Nat.le_refl _) (.cells #[Value.int .u8 (l.length : Int)] 5))
  have hl' : ¬ (255 : Int) < l.length := by omega
  have hw8 : IntKind.u8.wrap (l.length : Int) = l.length := by rw [IntKind.wrap_u8]; omega
  have hb : [UInt8.ofNat l.length].length + l.length ≤ 1000000000 := by simp; omega
  clear h e hl
  go_enter Tryz.func91, Tryz.ntmps91
  go_wp2_with (at_builtin; go_must (refine wpList_append_R (α := UInt8) (M := noM) (base := w.heap.size) (l := [UInt8.ofNat l.length]) (m := l) rfl (by rfl) tyB (by rfl) hL.out (by rfl) hS.out hb HB.out.size ?_); intro v4 w4 ho4 hg4 hat4)
  have HO := Lib.hid (And.intro (OwR.plain (M' := M) (fun _ _ _ _ _ h => h) ho4) (HB.out.grown hg4 HB.out.size (fun b e => hL.out.own_ge e)))
  clear ho4 hg4 hat4
  go_wp2
  go_ret2
  exact ⟨_, rfl, HO.out.1, HO.out.2⟩
theorem part_long (v : Value) (l : List UInt8) (w : World) (Mi : Ms) (h : SlR w Mi v l) (hl : 255 < l.length) :
    Calls Tryz.prog 91 #[v] w fun e w' => e = .returned (.tuple #[.slice none 0 0, .int .i64 2]) ∧ Below w.heap.size w w' := by
  obtain ⟨a, c, rfl⟩ := h.form
  have hl' : (255 : Int) < l.length := by omega
  clear h
  go_enter Tryz.func91, Tryz.ntmps91
  go_wp2
  go_ret2
  exact ⟨rfl, Below.refl _ _⟩
end Go.Proofs.YteecmgonbdbhdaaGreatDoor
end

/-
A byte above bytes: what `|` leaves.
-/
section
namespace Go.Proofs.YteecmgonbdbhdaaGreatDoor
open Go.RowKit
theorem or_byte (a x k : Nat) (ha : a < 256 ^ k) (hx : x < 256) (hk : k < 4) : bits BinOp.or IntKind.i64 (a : Int) (wrap64 ((x : Int) * 2 ^ (8 * k))) = ((a + 256 ^ k * x : Nat) : Int) := by
  have e : (256 : Nat) ^ k = 2 ^ (8 * k) := by rw [Nat.pow_mul]
  have h1 : 256 ^ k ≤ 16777216 := by
    rcases k with _ | _ | _ | _ | k
    all_goals first | decide | omega
  have h2 : 256 ^ k * x < 4294967296 := by
    have : 256 ^ k * x ≤ 16777216 * 255 := Nat.mul_le_mul h1 (by omega)
    omega
  have hw : wrap64 ((x : Int) * 2 ^ (8 * k)) = ((256 ^ k * x : Nat) : Int) := by
    have : (x : Int) * 2 ^ (8 * k) = ((256 ^ k * x : Nat) : Int) := by rw [e]; push_cast; rw [Int.mul_comm]
    rw [this]
    unfold wrap64
    omega
  rw [hw]
  have h62 : (4294967296 : Nat) < 2 ^ 62 := by decide
  rw [(bits_nat .i64 62 (by decide) (fun n h0 h1 => by rw [IntKind.wrap_i64]; omega) a (256 ^ k * x) (by omega) (by omega)).2]
  rw [e] at ha ⊢
  rw [Nat.or_comm, ← Nat.two_pow_add_eq_or_of_lt ha x, Nat.add_comm]
end Go.Proofs.YteecmgonbdbhdaaGreatDoor
end

/-
pack.Get.
-/
section
namespace Go.Proofs.YteecmgonbdbhdaaGreatDoor
open Go.RowKit
attribute [local go_sem ↓] Go.wp_at_zero Go.wp_at_succ

theorem SlR.cap {α : Type} [Rp α] {w : World} {M : Ms} {a : Option Addr} {n c : Nat} {l : List α} (h : SlR w M (.slice a n c) l) : n = l.length ∧ l.length ≤ c ∧ c ≤ 9223372036854775807 := by
  obtain ⟨a', c', xs, e, h1, h2, _⟩ := h
  cases e
  exact ⟨rfl, h1, by unfold maxLen at h2; omega⟩
theorem Elems.drop_ {α : Type} {sz : Nat} {E : List Value → α → Prop} : ∀ {l : List α} {xs : List Value} (i : Nat), Elems sz E xs l → i ≤ l.length → Elems sz E (xs.drop (i * sz)) (l.drop i)
  | l, xs, 0, h, _ => by simpa using h
  | x :: l, _, i + 1, ⟨cs, ys, e, hc, he, hy⟩, hi => by
    subst e
    have e1 : (i + 1) * sz = cs.length + i * sz := by rw [hc, Nat.add_mul]; omega
    rw [e1, List.drop_append, List.drop_eq_nil_of_le (by omega), List.nil_append, List.drop_succ_cons]
    rw [show cs.length + i * sz - cs.length = i * sz by omega]
    exact Elems.drop_ i hy (by simpa using hi)
  | [], xs, i + 1, h, hi => by simp at hi
theorem SlR.drop_ {α : Type} [Rp α] {w : World} {M : Ms} {b off n c i : Nat} {l : List α} (h : SlR w M (.slice (some ⟨b, off, none⟩) n c) l) (hi : i ≤ l.length) : SlR w M (.slice (if c = i then some ⟨b, off, none⟩ else some ⟨b, off + i * Rp.sz α, none⟩) (n - i) (c - i)) (l.drop i) := by
  obtain ⟨a', c', xs, e, h1, h2, h3, h4⟩ := h
  cases e
  have hl : (l.drop i).length = l.length - i := by rw [List.length_drop]
  refine ⟨_, c - i, xs.drop (i * Rp.sz α), by rw [hl], by omega, by omega, h3.drop_ i hi, fun hne => ?_⟩
  have hci : c ≠ i := fun e => hne (by rw [List.drop_eq_nil_of_le (by omega)])
  rw [if_neg hci]
  obtain ⟨b', off', e, hm, hc⟩ := h4 (by intro e; rw [e] at hne; simp at hne)
  cases e
  refine ⟨b, off + i * Rp.sz α, rfl, hm, fun j u hu => ?_⟩
  rw [List.getElem?_drop] at hu
  have := hc _ u hu
  rwa [← Nat.add_assoc] at this
/-- The number that bytes are, the least one first. -/
def leN : List UInt8 → Nat
  | [] => 0
  | x :: l => x.toNat + 256 * leN l
theorem leN_lt : ∀ l : List UInt8, leN l < 256 ^ l.length
  | [] => by simp [leN]
  | x :: l => by
    have := leN_lt l
    have := x.toNat_lt
    simp only [leN, List.length_cons, Nat.pow_succ]
    omega
theorem leN_snoc : ∀ (l : List UInt8) (x : UInt8), leN (l ++ [x]) = leN l + 256 ^ l.length * x.toNat
  | [], x => by simp [leN]
  | y :: l, x => by
    simp only [List.cons_append, leN, leN_snoc l x, List.length_cons, Nat.pow_succ, Nat.mul_add]
    rw [← Nat.add_assoc, ← Nat.mul_assoc, Nat.mul_comm 256 (256 ^ l.length)]

theorem get_step {l : List UInt8} {k : Nat} (hk : k < l.length) (h4 : k < 4) : bits BinOp.or IntKind.i64 ((leN (l.take k) : Nat) : Int) (wrap64 ((l[k].toNat : Int) * 2 ^ (8 * k))) = ((leN (l.take (k + 1)) : Nat) : Int) := by
  have hlen : (l.take k).length = k := by rw [List.length_take]; omega
  have := leN_lt (l.take k)
  rw [hlen] at this
  rw [or_byte _ _ k this l[k].toNat_lt h4, List.take_add_one, List.getElem?_eq_getElem hk]
  show _ = ((leN (l.take k ++ [l[k]]) : Nat) : Int)
  rw [leN_snoc, hlen]

set_option maxRecDepth 100000 in
set_option maxHeartbeats 8000000 in
theorem get_any (v : Value) (l : List UInt8) (size : Int) (w : World) (M Mi : Ms) (h : SlR w Mi v l) (hs : szOk size) (hl : size ≤ l.length) (hn : l.length ≤ 1000000) :
    Calls Tryz.prog 96 #[v, .int .i64 size] w fun e w' => ∃ r, e = .returned (.tuple #[.int .i64 (leN (l.take size.toNat) : Nat), r, .int .i64 0]) ∧ OwR w' M w.heap.size 5 r (l.drop size.toNat) ∧ Below w.heap.size w w' := by
  obtain ⟨a, c, rfl⟩ := h.form
  have H := Lib.hid h.bare
  obtain ⟨-, hc1, hc2⟩ := h.cap
  obtain ⟨m, rfl⟩ : ∃ m : Nat, size = m := ⟨size.toNat, by rcases hs with rfl | rfl | rfl <;> rfl⟩
  have hm : ((m : Int) != 1 && ((m : Int) != 2 && (m : Int) != 4)) = false := by rcases hs with h | h | h <;> rw [h] <;> decide
  have hm4 : m ≤ 4 := by rcases hs with h | h | h <;> omega
  have hlt : ¬ (l.length : Int) < m := by omega
  have hml : m ≤ l.length := by omega
  clear h
  rcases hs with h | h | h
  · obtain rfl : m = 1 := by omega
    clear hm h hm4
    go_enter Tryz.func96, Tryz.ntmps96
    go_wp2
    go_loopg [4, 29] 4 (fun g s4 s29 wr => ∃ k : Nat, s29 = .int .i64 k ∧ k ≤ 1 ∧ 1 - k ≤ g ∧ wr = w ∧ s4 = .int .i64 (leN (l.take k) : Nat))
    case atStart => exact ⟨0, rfl, by omega, by omega, rfl, rfl⟩
    case round =>
      obtain ⟨k, rfl, hkl, hg, rfl, rfl⟩ := hrel
      by_cases hk : k < 1
      · have hkl' : k < l.length := by omega
        obtain ⟨b, off, rfl, -, x1⟩ := u8_at H.out hkl'
        have hk' : (k : Int) < 1 := by omega
        have hw1 : IntKind.i64.wrap (l[k].toNat : Int) = l[k].toNat := by have := l[k].toNat_lt; rw [IntKind.wrap_i64]; omega
        have hor := Lib.hid (get_step hkl' (by omega))
        go_wp2
        go_roundg (1 - (k + 1))
        case measure => omega
        case rel => exact ⟨k + 1, by go_num, by omega, by omega, rfl, congrArg (Value.int .i64) hor.out⟩
      · obtain rfl : k = 1 := by omega
        obtain ⟨b, off, rfl, -, -⟩ := u8_at H.out (show 0 < l.length by omega)
        have hdr := Lib.hid (H.out.drop_ hml)
        have hdl : (l.drop 1).length ≤ 1000000000 := by rw [List.length_drop]; omega
        simp only [show Rp.sz UInt8 = 1 from rfl] at hdr
        go_wp2_with fail
        · rename_i h
          rw [if_pos h] at hdr
          subst h
          have hbc := Lib.hid (bclone_any _ _ wr M noM hdr.out hdl)
          ((with_reducible refine hbc.out.mono ?_); rintro e w3 ⟨r3, rfl, ho3, hB3⟩)
          have HO := Lib.hid (And.intro ho3 hB3)
          clear ho3 hB3
          go_wp2
          go_ret3
          exact ⟨_, rfl, HO.out.1, HO.out.2⟩
        · rename_i h
          rw [if_neg h] at hdr
          have hbc := Lib.hid (bclone_any _ _ wr M noM hdr.out hdl)
          ((with_reducible refine hbc.out.mono ?_); rintro e w3 ⟨r3, rfl, ho3, hB3⟩)
          have HO := Lib.hid (And.intro ho3 hB3)
          clear ho3 hB3
          go_wp2
          go_ret3
          exact ⟨_, rfl, HO.out.1, HO.out.2⟩
  · obtain rfl : m = 2 := by omega
    clear hm h hm4
    go_enter Tryz.func96, Tryz.ntmps96
    go_wp2
    go_loopg [4, 29] 4 (fun g s4 s29 wr => ∃ k : Nat, s29 = .int .i64 k ∧ k ≤ 2 ∧ 2 - k ≤ g ∧ wr = w ∧ s4 = .int .i64 (leN (l.take k) : Nat))
    case atStart => exact ⟨0, rfl, by omega, by omega, rfl, rfl⟩
    case round =>
      obtain ⟨k, rfl, hkl, hg, rfl, rfl⟩ := hrel
      by_cases hk : k < 2
      · have hkl' : k < l.length := by omega
        obtain ⟨b, off, rfl, -, x1⟩ := u8_at H.out hkl'
        have hk' : (k : Int) < 2 := by omega
        have hw1 : IntKind.i64.wrap (l[k].toNat : Int) = l[k].toNat := by have := l[k].toNat_lt; rw [IntKind.wrap_i64]; omega
        have hor := Lib.hid (get_step hkl' (by omega))
        go_wp2
        go_roundg (2 - (k + 1))
        case measure => omega
        case rel => exact ⟨k + 1, by go_num, by omega, by omega, rfl, congrArg (Value.int .i64) hor.out⟩
      · obtain rfl : k = 2 := by omega
        obtain ⟨b, off, rfl, -, -⟩ := u8_at H.out (show 0 < l.length by omega)
        have hdr := Lib.hid (H.out.drop_ hml)
        have hdl : (l.drop 2).length ≤ 1000000000 := by rw [List.length_drop]; omega
        simp only [show Rp.sz UInt8 = 1 from rfl] at hdr
        go_wp2_with fail
        · rename_i h
          rw [if_pos h] at hdr
          subst h
          have hbc := Lib.hid (bclone_any _ _ wr M noM hdr.out hdl)
          ((with_reducible refine hbc.out.mono ?_); rintro e w3 ⟨r3, rfl, ho3, hB3⟩)
          have HO := Lib.hid (And.intro ho3 hB3)
          clear ho3 hB3
          go_wp2
          go_ret3
          exact ⟨_, rfl, HO.out.1, HO.out.2⟩
        · rename_i h
          rw [if_neg h] at hdr
          have hbc := Lib.hid (bclone_any _ _ wr M noM hdr.out hdl)
          ((with_reducible refine hbc.out.mono ?_); rintro e w3 ⟨r3, rfl, ho3, hB3⟩)
          have HO := Lib.hid (And.intro ho3 hB3)
          clear ho3 hB3
          go_wp2
          go_ret3
          exact ⟨_, rfl, HO.out.1, HO.out.2⟩
  · obtain rfl : m = 4 := by omega
    clear hm h hm4
    go_enter Tryz.func96, Tryz.ntmps96
    go_wp2
    go_loopg [4, 29] 4 (fun g s4 s29 wr => ∃ k : Nat, s29 = .int .i64 k ∧ k ≤ 4 ∧ 4 - k ≤ g ∧ wr = w ∧ s4 = .int .i64 (leN (l.take k) : Nat))
    case atStart => exact ⟨0, rfl, by omega, by omega, rfl, rfl⟩
    case round =>
      obtain ⟨k, rfl, hkl, hg, rfl, rfl⟩ := hrel
      by_cases hk : k < 4
      · have hkl' : k < l.length := by omega
        obtain ⟨b, off, rfl, -, x1⟩ := u8_at H.out hkl'
        have hk' : (k : Int) < 4 := by omega
        have hw1 : IntKind.i64.wrap (l[k].toNat : Int) = l[k].toNat := by have := l[k].toNat_lt; rw [IntKind.wrap_i64]; omega
        have hor := Lib.hid (get_step hkl' (by omega))
        go_wp2
        go_roundg (4 - (k + 1))
        case measure => omega
        case rel => exact ⟨k + 1, by go_num, by omega, by omega, rfl, congrArg (Value.int .i64) hor.out⟩
      · obtain rfl : k = 4 := by omega
        obtain ⟨b, off, rfl, -, -⟩ := u8_at H.out (show 0 < l.length by omega)
        have hdr := Lib.hid (H.out.drop_ hml)
        have hdl : (l.drop 4).length ≤ 1000000000 := by rw [List.length_drop]; omega
        simp only [show Rp.sz UInt8 = 1 from rfl] at hdr
        go_wp2_with fail
        · rename_i h
          rw [if_pos h] at hdr
          subst h
          have hbc := Lib.hid (bclone_any _ _ wr M noM hdr.out hdl)
          ((with_reducible refine hbc.out.mono ?_); rintro e w3 ⟨r3, rfl, ho3, hB3⟩)
          have HO := Lib.hid (And.intro ho3 hB3)
          clear ho3 hB3
          go_wp2
          go_ret3
          exact ⟨_, rfl, HO.out.1, HO.out.2⟩
        · rename_i h
          rw [if_neg h] at hdr
          have hbc := Lib.hid (bclone_any _ _ wr M noM hdr.out hdl)
          ((with_reducible refine hbc.out.mono ?_); rintro e w3 ⟨r3, rfl, ho3, hB3⟩)
          have HO := Lib.hid (And.intro ho3 hB3)
          clear ho3 hB3
          go_wp2
          go_ret3
          exact ⟨_, rfl, HO.out.1, HO.out.2⟩
end Go.Proofs.YteecmgonbdbhdaaGreatDoor
end

/-
pack.Get of too few bytes.
-/
section
namespace Go.Proofs.YteecmgonbdbhdaaGreatDoor
open Go.RowKit
attribute [local go_sem ↓] Go.wp_at_zero Go.wp_at_succ

set_option maxRecDepth 100000 in
set_option maxHeartbeats 8000000 in
theorem get_few (v : Value) (l : List UInt8) (size : Int) (w : World) (Mi : Ms) (h : SlR w Mi v l) (hs : szOk size) (hl : l.length < size) :
    Calls Tryz.prog 96 #[v, .int .i64 size] w fun e w' => e = .returned (.tuple #[.int .i64 0, .slice none 0 0, .int .i64 4]) ∧ Below w.heap.size w w' := by
  obtain ⟨a, c, rfl⟩ := h.form
  clear h
  rcases hs with rfl | rfl | rfl
  · go_enter Tryz.func96, Tryz.ntmps96
    go_wp2
    go_ret3
    exact ⟨rfl, Below.refl _ _⟩
  · go_enter Tryz.func96, Tryz.ntmps96
    go_wp2
    go_ret3
    exact ⟨rfl, Below.refl _ _⟩
  · go_enter Tryz.func96, Tryz.ntmps96
    go_wp2
    go_ret3
    exact ⟨rfl, Below.refl _ _⟩
end Go.Proofs.YteecmgonbdbhdaaGreatDoor
end

/-
Laws on rows and slices that the packages below use: of two types, of elements that own nothing, cut, stored into.
-/
section
namespace Go.Proofs.YteecmgonbdbhdaaGreatDoor
open Go.RowKit

abbrev OM (M : Ms) (v : Value) : Ms := fun b => M b ∨ v.ownBlock = some b
theorem OwR.own_ne {α β : Type} [Rp α] [Rp β] {w : World} {M1 M2 : Ms} {n1 n2 : Nat} {e1 e2 : TypeId} {v1 v2 : Value} {l1 : List α} {l2 : List β} (h1 : OwR w M1 n1 e1 v1 l1) (h2 : OwR w M2 n2 e2 v2 l2) (hne : e1 ≠ e2) :
    v2.ownBlock = none ∨ v2.ownBlock ≠ v1.ownBlock := by
  obtain ⟨xs, ho', _⟩ := h1
  obtain ⟨ys, ho'', _⟩ := h2
  rcases ho''.2 with ⟨rfl, _⟩ | ⟨g2, cap2, cur2, rfl, _, hh2, _⟩
  · exact .inl (by simp [Value.ownBlock])
  · refine .inr fun e => ?_
    rcases ho'.2 with ⟨rfl, _⟩ | ⟨g1, cap, cur, rfl, _, hh, _⟩
    · simp [Value.ownBlock] at e
    · simp [Value.ownBlock] at e
      subst e
      rw [hh] at hh2
      injection hh2 with hh2
      injection hh2 with _ ht
      exact hne ht
/-- A row that is newer than another one is not it. -/
theorem OwR.own_new {α β : Type} [Rp α] [Rp β] {w w' : World} {M1 M2 : Ms} {n1 : Nat} {e1 e2 : TypeId} {v1 v2 : Value} {l1 : List α} {l2 : List β} (h1 : OwR w M1 n1 e1 v1 l1) (h2 : OwR w' M2 w.heap.size e2 v2 l2) :
    v2.ownBlock = none ∨ v2.ownBlock ≠ v1.ownBlock := by
  cases h : v2.ownBlock with
  | none => exact .inl rfl
  | some g =>
    refine .inr fun e => ?_
    have a := h2.own_ge h
    have b := h1.own_lt e.symm
    omega
theorem OwR.own_old {α β : Type} [Rp α] [Rp β] {w w' : World} {M1 M2 : Ms} {n1 : Nat} {e1 e2 : TypeId} {v1 v2 : Value} {l1 : List α} {l2 : List β} (h1 : OwR w M1 n1 e1 v1 l1) (h2 : OwR w' M2 w.heap.size e2 v2 l2) :
    v1.ownBlock = none ∨ v1.ownBlock ≠ v2.ownBlock := by
  cases h : v1.ownBlock with
  | none => exact .inl rfl
  | some g =>
    refine .inr fun e => ?_
    have a := h2.own_ge e.symm
    have b := h1.own_lt h
    omega
abbrev Plain (α : Type) [Rp α] : Prop := ∀ w M w' M' cs (x : α), Rp.E w M cs x → Rp.E w' M' cs x
theorem plU : Plain UInt8 := fun _ _ _ _ _ _ h => h
theorem plI : Plain Int := fun _ _ _ _ _ _ h => h
theorem plO : Plain Bool := fun _ _ _ _ _ _ h => h
theorem plE : Plain Ent := fun _ _ _ _ _ _ h => h
section
variable {α : Type} [Rp α] {w w' : World} {M M' : Ms} {base : Nat} {e : TypeId} {v : Value} {l : List α}
theorem OwR.pl (hp : Plain α) (h : OwR w M base e v l) : OwR w M' base e v l := OwR.plain (fun _ _ _ _ _ h => hp _ _ _ _ _ _ h) h
theorem OwR.keptP (hp : Plain α) {row : Option Nat} (h : OwR w M base e v l) (hg : w.grownBy w' row) (hne : v.ownBlock = none ∨ v.ownBlock ≠ row) : OwR w' M base e v l :=
  OwR.pl (M := fun _ => True) hp ((OwR.pl hp h).kept hg hne fun _ _ => trivial)
theorem OwR.setP (hp : Plain α) (h : OwR w M base e v l) {p : Addr} (hne : v.ownBlock ≠ some p.block) (u : Value) : OwR (w.setCell p u) M base e v l :=
  OwR.pl (M := fun _ => True) hp ((OwR.pl hp h).setCell hne trivial u)
/-- A row of the call's own read as a slice, if what may be written is not it. -/
theorem OwR.sl' (h : OwR w M base e v l) (hM : ∀ b, v.ownBlock = some b → ¬ M b) : SlR w M v l := by
  obtain ⟨xs, ho, he⟩ := h
  have he' : Elems (Rp.sz α) (Rp.E w M) xs l := he.mono fun cs x _ => Rp.mono fun b _ hb => ⟨fun hm => hb (.inl hm), rfl⟩
  rcases ho.2 with ⟨rfl, hn⟩ | ⟨g, cap, cur, rfl, hb, hg, hnc, hcm, hcs, ht⟩
  · have : l = [] := List.eq_nil_of_length_eq_zero hn
    subst this
    exact ⟨none, 0, xs, rfl, by simp, by simp [maxLen], he', fun h => absurd rfl h⟩
  · refine ⟨_, cap, xs, rfl, hnc, hcm, he', fun _ => ⟨g, 0, rfl, hM g rfl, fun j u hu => ?_⟩⟩
    have := ho.cells (g := g) rfl j u hu
    rwa [Addr.add_lit] at this
end
theorem Elems.take_ {α : Type} {sz : Nat} {E : List Value → α → Prop} : ∀ {l : List α} {xs : List Value} (i : Nat), Elems sz E xs l → i ≤ l.length → Elems sz E (xs.take (i * sz)) (l.take i)
  | l, xs, 0, _, _ => by simp [Elems]
  | x :: l, _, i + 1, ⟨cs, ys, e, hc, he, hy⟩, hi => by
    subst e
    have e1 : (i + 1) * sz = cs.length + i * sz := by rw [hc, Nat.add_mul]; omega
    rw [e1, List.take_append, List.take_of_length_le (by omega), List.take_succ_cons]
    rw [show cs.length + i * sz - cs.length = i * sz by omega]
    exact ⟨cs, _, rfl, hc, he, Elems.take_ i hy (by simpa using hi)⟩
  | [], xs, i + 1, h, hi => by simp at hi
theorem SlR.take_ {α : Type} [Rp α] {w : World} {M : Ms} {a : Option Addr} {n c i : Nat} {l : List α} (h : SlR w M (.slice a n c) l) (hi : i ≤ l.length) : SlR w M (.slice a i c) (l.take i) := by
  obtain ⟨a', c', xs, e, h1, h2, h3, h4⟩ := h
  cases e
  have hl : (l.take i).length = i := by rw [List.length_take]; omega
  refine ⟨a, c, xs.take (i * Rp.sz α), by rw [hl], by omega, h2, h3.take_ i hi, fun hne => ?_⟩
  obtain ⟨b, off, e, hm, hc⟩ := h4 (by intro e; rw [e] at hne; simp at hne)
  refine ⟨b, off, e, hm, fun j u hu => hc j u ?_⟩
  rw [List.getElem?_take] at hu
  split at hu
  · exact hu
  · cases hu
theorem SlR.dropN {α : Type} [Rp α] {w : World} {M : Ms} {n c : Nat} {l : List α} (h : SlR w M (.slice none n c) l) : l = [] ∧ n = 0 := by
  obtain ⟨a', c', xs, e, h1, h2, h3, h4⟩ := h
  cases e
  by_cases hl : l = []
  · subst hl; exact ⟨rfl, rfl⟩
  · obtain ⟨b, off, e, _⟩ := h4 hl; cases e
theorem grownBy_set (w : World) (g i : Nat) (u : Value) : w.grownBy (w.setCell ⟨g, i, none⟩ u) (some g) :=
  ⟨rfl, rfl, rfl, by simp, fun k _ hne => Below.heap_setCell _ _ _ _ (fun e => hne (by rw [e]))⟩
theorem grownBy_trans {a b c : World} {r : Option Nat} (h : a.grownBy b r) (k : b.grownBy c r) : a.grownBy c r :=
  ⟨k.os.trans h.os, k.tape.trans h.tape, k.output.trans h.output, Nat.le_trans h.size k.size, fun i hi hne => (k.block i (Nat.lt_of_lt_of_le hi h.size) hne).trans (h.block i hi hne)⟩
/-- One value of an owned row's element stored anew. -/
theorem OwR.setF {α : Type} [Rp α] {w : World} {M : Ms} {base g c j f : Nat} {e : TypeId} {n : Nat} {l : List α} (h : OwR w M base e (.slice (some ⟨g, 0, none⟩) n c) l) (hj : j < l.length) (hf : f < Rp.sz α) (u : Value) (y : α)
    (hE : ∀ cs, Rp.E w (OM M (.slice (some ⟨g, 0, none⟩) n c)) cs l[j] → Rp.E w (OM M (.slice (some ⟨g, 0, none⟩) n c)) (cs.set f u) y) :
    OwR (w.setCell ⟨g, j * Rp.sz α + f, none⟩ u) M base e (.slice (some ⟨g, 0, none⟩) n c) (l.set j y) := by
  have hgr := grownBy_set w g (j * Rp.sz α + f) u
  obtain ⟨A', c', hv⟩ := h.form
  simp only [Value.slice.injEq] at hv
  obtain ⟨-, hnl, -⟩ := hv
  subst hnl
  obtain ⟨xs, ho, he⟩ := h
  have s1 := (ho.stored (j * Rp.sz α + f) u).1
  obtain ⟨cs, hcl, hEcs, hcj⟩ := he.get (List.getElem?_eq_getElem hj)
  have hkeep : Keep w (OM M (.slice (some ⟨g, 0, none⟩) l.length c)) (w.setCell ⟨g, j * Rp.sz α + f, none⟩ u) (OM M (.slice (some ⟨g, 0, none⟩) l.length c)) :=
    fun b hb hm => ⟨hm, hgr.block b hb (fun e => hm (.inr (by simpa [Value.ownBlock] using e.symm)))⟩
  have hlen := he.length
  have hlt : j * Rp.sz α + Rp.sz α ≤ xs.length := by
    have : (j + 1) * Rp.sz α ≤ l.length * Rp.sz α := Nat.mul_le_mul_right _ hj
    rw [Nat.succ_mul] at this
    omega
  have hp := Elems.put (xs' := xs.set (j * Rp.sz α + f) u) (y := y) (cs := cs.set f u) (he.mono fun cs x _ => Rp.mono hkeep) hj (by simp)
    (fun i hi => List.getElem?_set_ne (by omega)) (by simp [hcl]) (Rp.mono hkeep (hE cs hEcs)) (fun i hi => by
      by_cases hif : f = i
      · subst hif; rw [List.getElem?_set_self (by omega), List.getElem?_set_self (by omega)]
      · rw [List.getElem?_set_ne (by omega), List.getElem?_set_ne hif]; exact hcj i hi)
  exact ⟨_, by rw [List.length_set]; exact s1, hp⟩
theorem OwR.setI {w : World} {M : Ms} {base g c j n : Nat} {e : TypeId} {l : List Int} (h : OwR w M base e (.slice (some ⟨g, 0, none⟩) n c) l) (hj : j < l.length) (y : Int) :
    OwR (w.setCell ⟨g, j, none⟩ (.int .i64 y)) M base e (.slice (some ⟨g, 0, none⟩) n c) (l.set j y) := by
  have := h.setF hj (f := 0) (show 0 < 1 by omega) (.int .i64 y) y (fun cs hcs => by
    have hcs' : cs = [.int .i64 l[j]] := hcs
    subst hcs'
    rfl)
  rwa [show j * Rp.sz Int + 0 = j by show j * 1 + 0 = j; omega] at this
/-- A literal of numbers. -/
theorem OwR.litI (w : World) (M : Ms) (l : List Int) (hl : l.length ≤ 1000) : OwR (w.alloc (.cells (l.map (Value.int .i64)).toArray 3)) M w.heap.size 3 (.slice (some ⟨w.heap.size, 0, none⟩) l.length l.length) l := by
  refine ⟨l.map (Value.int .i64), ⟨by simp [Rp.sz], .inr ⟨w.heap.size, l.length, _, rfl, Nat.le_refl _, heap_alloc_new w _, Nat.le_refl _, by unfold maxLen; omega, by simp [Rp.sz], ?_⟩⟩, ?_⟩
  · simp only [Rp.sz, Nat.mul_one]
    exact List.take_of_length_le (by simp)
  · clear hl
    induction l with
    | nil => rfl
    | cons x l ih => exact ⟨[.int .i64 x], _, rfl, rfl, rfl, ih⟩
end Go.Proofs.YteecmgonbdbhdaaGreatDoor
end

/-
Plain laws on the numbers that bytes begin with.
-/
section
namespace Go.Proofs.YteecmgonbdbhdaaGreatDoor

/-- How many bytes numbers of these sizes take. -/
def tot : List Int → Nat
  | [] => 0
  | s :: ss => s.toNat + tot ss
/-- The numbers that bytes begin with. -/
def nums : List Int → List UInt8 → List Int
  | [], _ => []
  | s :: ss, b => ((leN (b.take s.toNat) : Nat) : Int) :: nums ss (b.drop s.toNat)
theorem tot_step : ∀ (ss : List Int) (k : Nat) (h : k < ss.length), tot (ss.take (k + 1)) = tot (ss.take k) + ss[k].toNat
  | s :: ss, 0, _ => by simp [tot]
  | s :: ss, k + 1, h => by
    have := tot_step ss k (by simpa using h)
    simp only [List.take_succ_cons, tot, List.getElem_cons_succ]
    omega
theorem tot_take_le : ∀ (ss : List Int) (k : Nat), tot (ss.take k) ≤ tot ss
  | [], _ => by simp
  | s :: ss, 0 => by simp [tot]
  | s :: ss, k + 1 => by
    have := tot_take_le ss k
    simp only [List.take_succ_cons, tot]
    omega
theorem nums_step : ∀ (ss : List Int) (b : List UInt8) (k : Nat) (h : k < ss.length), nums (ss.take (k + 1)) b = nums (ss.take k) b ++ [((leN ((b.drop (tot (ss.take k))).take ss[k].toNat) : Nat) : Int)]
  | s :: ss, b, 0, _ => by simp [nums, tot]
  | s :: ss, b, k + 1, h => by
    have := nums_step ss (b.drop s.toNat) k (by simpa using h)
    simp only [List.take_succ_cons, nums, tot, List.getElem_cons_succ, List.cons_append]
    rw [this, List.drop_drop]
theorem nums_len : ∀ (ss : List Int) (b : List UInt8), (nums ss b).length = ss.length
  | [], _ => rfl
  | s :: ss, b => by simp [nums, nums_len ss]
theorem leN_leB : ∀ (k n : Nat), n < 256 ^ k → leN (leB k n) = n
  | 0, n, h => by simp at h; simp [leB, leN, h]
  | k + 1, n, h => by
    have h2 : n / 256 < 256 ^ k := by rw [Nat.pow_succ] at h; omega
    simp only [leB, leN, leN_leB k (n / 256) h2]
    simp
    omega
theorem leB_leN : ∀ (l : List UInt8), leB l.length (leN l) = l
  | [] => rfl
  | x :: l => by
    have hx := x.toNat_lt
    have e1 : (x.toNat + 256 * leN l) % 256 = x.toNat := by omega
    have e2 : (x.toNat + 256 * leN l) / 256 = leN l := by omega
    simp only [List.length_cons, leB, leN, e1, e2, leB_leN l]
    simp
theorem lim_pow {s : Int} (h : szOk s) : limS s = ((256 ^ s.toNat : Nat) : Int) := by rcases h with rfl | rfl | rfl <;> decide
theorem tot_rowB : ∀ (ns ss : List Int), ns.length = ss.length → (rowB ns ss).length = tot ss
  | [], [], _ => rfl
  | n :: ns, s :: ss, h => by
    have := tot_rowB ns ss (by simpa using h)
    simp [rowB, tot, leB_len, this]
/-- Numbers that fit are read back, whatever stands behind them. -/
theorem nums_rowB : ∀ (ns ss : List Int) (r : List UInt8), ns.length = ss.length → (∀ k (a : k < ns.length) (b : k < ss.length), szOk ss[k] ∧ 0 ≤ ns[k] ∧ ns[k] < limS ss[k]) → nums ss (rowB ns ss ++ r) = ns
  | [], [], _, _, _ => rfl
  | n :: ns, s :: ss, r, h, hf => by
    have ih := nums_rowB ns ss r (by simpa using h) (fun k a b => hf (k + 1) (by simp; omega) (by simp; omega))
    obtain ⟨h1, h2, h3⟩ := hf 0 (by simp) (by simp)
    simp only [List.getElem_cons_zero] at h1 h2 h3
    rw [lim_pow h1] at h3
    have e1 : ((leB s.toNat n.toNat ++ rowB ns ss) ++ r).take s.toNat = leB s.toNat n.toNat := by
      rw [List.append_assoc, List.take_append_of_le_length (by rw [leB_len]; exact Nat.le_refl _), List.take_of_length_le (by rw [leB_len]; exact Nat.le_refl _)]
    have e2 : ((leB s.toNat n.toNat ++ rowB ns ss) ++ r).drop s.toNat = rowB ns ss ++ r := by
      rw [List.append_assoc, List.drop_append, List.drop_eq_nil_of_le (by rw [leB_len]; exact Nat.le_refl _), leB_len]
      simp
    simp only [rowB, nums, e1, e2, ih, leN_leB _ _ (show n.toNat < 256 ^ s.toNat by omega)]
    rw [Int.toNat_of_nonneg h2]
/-- The bytes of what was read are the bytes. -/
theorem rowB_nums : ∀ (ss : List Int) (b : List UInt8), tot ss ≤ b.length → rowB (nums ss b) ss = b.take (tot ss)
  | [], b, _ => by simp [rowB, tot, nums]
  | s :: ss, b, h => by
    simp only [tot] at h
    have ih := rowB_nums ss (b.drop s.toNat) (by rw [List.length_drop]; omega)
    have hl : (b.take s.toNat).length = s.toNat := by rw [List.length_take]; omega
    have e := leB_leN (b.take s.toNat)
    rw [hl] at e
    simp only [nums, rowB, ih, tot, Int.toNat_natCast, e]
    rw [← List.take_add]
/-- What is read fits. -/
theorem nums_fit : ∀ (ss : List Int) (b : List UInt8), (∀ s ∈ ss, szOk s) → ∀ k (a : k < (nums ss b).length) (c : k < ss.length), szOk ss[k] ∧ 0 ≤ (nums ss b)[k] ∧ (nums ss b)[k] < limS ss[k]
  | [], _, _, k, a, c => by simp at c
  | s :: ss, b, h, 0, a, c => by
    have h1 := h s (by simp)
    refine ⟨h1, by simp [nums], ?_⟩
    simp only [nums, List.getElem_cons_zero, lim_pow h1]
    have := leN_lt (b.take s.toNat)
    have h2 : 256 ^ (b.take s.toNat).length ≤ 256 ^ s.toNat := Nat.pow_le_pow_right (by omega) (by rw [List.length_take]; omega)
    omega
  | s :: ss, b, h, k + 1, a, c => by
    have := nums_fit ss (b.drop s.toNat) (fun x hx => h x (by simp [hx])) k (by simpa [nums] using a) (by simpa using c)
    simpa [nums] using this
end Go.Proofs.YteecmgonbdbhdaaGreatDoor
end

/-
pack.Unrow.
-/
section
namespace Go.Proofs.YteecmgonbdbhdaaGreatDoor
open Go.RowKit
attribute [local go_sem ↓] Go.wp_at_zero Go.wp_at_succ

/-- What Unrow leaves: the numbers and the rest, or nothing. -/
def UnrowP (w' : World) (base : Nat) (b : List UInt8) (ss : List Int) (e : Ending) : Prop :=
  (tot ss ≤ b.length ∧ ∃ v1 v2, e = .returned (.tuple #[v1, v2, .int .i64 0]) ∧ OwR w' noM base 3 v1 (nums ss b) ∧ OwR w' noM base 5 v2 (b.drop (tot ss))) ∨
  (b.length < tot ss ∧ e = .returned (.tuple #[.slice none 0 0, .slice none 0 0, .int .i64 4]))

set_option maxRecDepth 100000 in
set_option maxHeartbeats 8000000 in
theorem unrow_any (v1 v2 : Value) (b : List UInt8) (ss : List Int) (w : World) (M1 M2 : Ms) (h1 : SlR w M1 v1 b) (h2 : SlR w M2 v2 ss) (hss : ∀ s ∈ ss, szOk s) (hl : b.length ≤ 1000000) (hn : ss.length ≤ 1000) :
    Calls Tryz.prog 98 #[v1, v2] w fun e w' => UnrowP w' w.heap.size b ss e ∧ Below w.heap.size w w' := by
  obtain ⟨a1, c1, rfl⟩ := h1.form
  obtain ⟨a2, c2, rfl⟩ := h2.form
  have hcl := Lib.hid (bclone_any _ b w noM M1 h1 (by omega))
  have H2 := Lib.hid h2.bare
  have HS := Lib.hid hss
  have HL := Lib.hid hl
  clear h1 h2 hss hl
  go_enter Tryz.func98, Tryz.ntmps98
  go_wp2_with (go_at_call 47; go_must (with_reducible refine hcl.out.mono ?_); rintro e w1 ⟨r, rfl, ho1, hB1⟩)
  have HO := Lib.hid (And.intro ho1 hB1)
  clear ho1 hB1 hcl
  go_loopg [4, 5, 16] ss.length (fun g s4 s5 s16 wr => ∃ k : Nat, s16 = .int .i64 k ∧ k ≤ ss.length ∧ ss.length - k ≤ g ∧ Hid (tot (ss.take k) ≤ b.length ∧ OwR wr noM w.heap.size 3 s4 (nums (ss.take k) b) ∧ OwR wr noM w.heap.size 5 s5 (b.drop (tot (ss.take k))) ∧ Below w.heap.size w wr))
  case atStart => exact ⟨0, rfl, Nat.zero_le _, by omega, Lib.hid ⟨by simp [tot], OwR.nil _ _ _ _, by simpa [tot] using HO.out.1, HO.out.2⟩⟩
  case round =>
    obtain ⟨k, rfl, hkl, hg, hI⟩ := hrel
    obtain ⟨w0, rfl⟩ : ∃ w0, w0 = wr := ⟨_, rfl⟩
    by_cases hlt : k < ss.length
    · obtain ⟨hT, ho4, ho5, hB⟩ := hI.out
      obtain ⟨bb, off, rfl, -, x1⟩ := int_at (H2.out.mono (Keep.below hB)) hlt
      have hlt' : (k : Int) < ss.length := by omega
      have hsz := HS.out ss[k] (List.getElem_mem hlt)
      have hstep := tot_step ss k hlt
      have hle := tot_take_le ss (k + 1)
      by_cases hfit : ss[k].toNat ≤ (b.drop (tot (ss.take k))).length
      · have hpos : 0 ≤ ss[k] := by rcases hsz with h | h | h <;> rw [h] <;> decide
        have hge := Lib.hid (get_any _ (b.drop (tot (ss.take k))) ss[k] w0 noM noM (ho5.sl (fun _ _ h => h)) hsz (by omega) (by rw [List.length_drop]; have := HL.out; omega))
        have hns := Lib.hid (nums_step ss b k hlt)
        have hts := Lib.hid hstep
        have hT2 := Lib.hid (show tot (ss.take (k + 1)) ≤ b.length by rw [hstep]; rw [List.length_drop] at hfit; omega)
        obtain ⟨x, hx⟩ : ∃ x : Nat, x = leN ((b.drop (tot (ss.take k))).take ss[k].toNat) := ⟨_, rfl⟩
        rw [← hx] at hge hns
        have H4 := Lib.hid ho4
        have HB := Lib.hid hB
        have hnl : (nums (ss.take k) b).length + 1 ≤ 1000000000 := by rw [nums_len, List.length_take]; omega
        clear hx hsz hpos hfit hstep hle hT ho4 ho5 hB hI
        go_wp2_with fail
        ((with_reducible refine hge.out.mono ?_); rintro e w2 ⟨r2, rfl, ho2, hB2⟩)
        have hbA := (Below.refl w2.heap.size w2).alloc (Nat.le_refl _) (.cells #[.int .i64 x] 3)
        have O4 := Lib.hid ((H4.out.below hB2).below hbA)
        have O5 := Lib.hid (And.intro (H4.out.own_new ho2) (ho2.below hbA))
        have HB2 := Lib.hid (HB.out.trans ((hB2.trans (hbA.mono hB2.size)).mono HB.out.size))
        have hS := Lib.hid (show SlR (w2.alloc (.cells #[.int .i64 x] 3)) (fun b => noM b ∨ u4.ownBlock = some b) (.slice (some ⟨w2.heap.size, 0, none⟩) 1 1) [(x : Int)] from
          SlR.one (Blk.new w2 3 #[.int .i64 x]) rfl (fun h' => h'.elim (fun h => h) (fun h => by have := (H4.out.below hB2).own_lt h; omega)))
        clear hbA ho2 hB2 hge
        go_wp2_with (at_builtin; go_must (refine wpList_append_R (α := Int) (M := noM) (base := w.heap.size) (l := nums (ss.take k) b) (m := [(x : Int)]) rfl (by rfl) tyI (by rfl) O4.out (by rfl) hS.out (by simpa using hnl) HB2.out.size ?_); intro v4 w4 ho4 hg4 hat4)
        go_roundg (ss.length - (k + 1))
        case measure => omega
        case rel =>
          refine ⟨k + 1, by go_num, by omega, by omega, Lib.hid ⟨hT2.out, by rw [hns.out]; exact ho4, ?_, HB2.out.grown hg4 HB2.out.size (fun b e => O4.out.own_ge e)⟩⟩
          rw [hts.out, ← List.drop_drop]
          exact (O5.out.2.keptP plU hg4 O5.out.1).mono_base HB.out.size
      · have hge := Lib.hid (get_few _ (b.drop (tot (ss.take k))) ss[k] w0 noM (ho5.sl (fun _ _ h => h)) hsz (by omega))
        have hT2 := Lib.hid (show b.length < tot ss by rw [List.length_drop] at hfit; omega)
        have HB := Lib.hid hB
        clear hsz hfit hstep hle hT ho4 ho5 hB hI
        go_wp2_with fail
        ((with_reducible refine hge.out.mono ?_); rintro e w2 ⟨rfl, hB2⟩)
        have HB2 := Lib.hid (HB.out.trans (hB2.mono HB.out.size))
        clear hB2 hge
        go_wp2
        go_ret3
        exact ⟨.inr ⟨hT2.out, rfl⟩, HB2.out⟩
    · obtain rfl : k = ss.length := by omega
      rw [List.take_length] at hI
      go_wp2
      go_ret3
      exact ⟨.inl ⟨hI.out.1, _, _, rfl, hI.out.2.1, hI.out.2.2.1⟩, hI.out.2.2.2⟩
end Go.Proofs.YteecmgonbdbhdaaGreatDoor
end

/-
pack.Unpart.
-/
section
namespace Go.Proofs.YteecmgonbdbhdaaGreatDoor
open Go.RowKit
attribute [local go_sem ↓] Go.wp_at_zero Go.wp_at_succ

theorem SlR.dropU {w : World} {M : Ms} {b off n c i : Nat} {l : List UInt8} (h : SlR w M (.slice (some ⟨b, off, none⟩) n c) l) (hi : i ≤ l.length) : SlR w M (.slice (if c = i then some ⟨b, off, none⟩ else some ⟨b, off + i, none⟩) (n - i) (c - i)) (l.drop i) := by
  have := h.drop_ hi
  rwa [show Rp.sz UInt8 = 1 from rfl, Nat.mul_one] at this
/-- How long the part is that bytes begin with. -/
def partN (b : List UInt8) : Nat := (b.headD 0).toNat
def partOk (b : List UInt8) : Bool := decide (1 ≤ b.length ∧ 1 + partN b ≤ b.length)
def UnpartP (w' : World) (base : Nat) (b : List UInt8) (e : Ending) : Prop :=
  (partOk b = true ∧ ∃ v1 v2, e = .returned (.tuple #[v1, v2, .int .i64 0]) ∧ OwR w' noM base 5 v1 ((b.drop 1).take (partN b)) ∧ OwR w' noM base 5 v2 (b.drop (1 + partN b))) ∨
  (partOk b = false ∧ e = .returned (.tuple #[.slice none 0 0, .slice none 0 0, .int .i64 4]))

set_option maxRecDepth 100000 in
set_option maxHeartbeats 8000000 in
theorem unpart_any (v1 : Value) (b : List UInt8) (w : World) (M1 : Ms) (h1 : SlR w M1 v1 b) (hl : b.length ≤ 1000000) :
    Calls Tryz.prog 97 #[v1] w fun e w' => UnpartP w' w.heap.size b e ∧ Below w.heap.size w w' := by
  obtain ⟨a1, c1, rfl⟩ := h1.form
  obtain ⟨-, hc1, hc2⟩ := h1.cap
  have H1 := Lib.hid h1.bare
  clear h1
  by_cases h0 : b.length = 0
  · have hE := Lib.hid (show partOk b = false by simp [partOk, h0])
    have h0' : ((b.length : Int) == 0) = true := by simp [h0]
    clear h0
    go_enter Tryz.func97, Tryz.ntmps97
    go_wp2
    go_ret3
    exact ⟨.inr ⟨hE.out, rfl⟩, Below.refl _ _⟩
  · have hpos : 0 < b.length := by omega
    have h0' : ((b.length : Int) == 0) = false := by simpa using h0
    obtain ⟨B, off, rfl, -, x1⟩ := u8_at H1.out hpos
    rw [Nat.add_zero] at x1
    have hw : IntKind.i64.wrap (b[0].toNat : Int) = b[0].toNat := by have := b[0].toNat_lt; rw [IntKind.wrap_i64]; omega
    have hbt : (b[0].toNat : Int) ≤ 255 := by have := b[0].toNat_lt; omega
    obtain ⟨m, hm⟩ : ∃ m : Nat, (1 : Int) + ((b[0].toNat : Nat) : Int) = (m : Int) := ⟨1 + b[0].toNat, by omega⟩
    have hm1 : (1 : Int) ≤ m := by omega
    have hm2 : (m : Int) ≤ 256 := by omega
    have hN : Hid (1 + partN b = m) := Lib.hid (by cases b with | nil => simp at hpos | cons x l => simp only [partN, List.headD_cons]; simp only [List.getElem_cons_zero] at hm; omega)
    have hpos' : (0 : Int) < b.length := by omega
    clear h0
    by_cases hlt : b.length < m
    · have hE := Lib.hid (show partOk b = false by simp only [partOk, hN.out]; simp; omega)
      have hlt' : (b.length : Int) < m := by omega
      go_enter Tryz.func97, Tryz.ntmps97
      go_wp2
      go_ret3
      exact ⟨.inr ⟨hE.out, rfl⟩, Below.refl _ _⟩
    · have hE := Lib.hid (show partOk b = true by simp only [partOk, hN.out]; simp; omega)
      have hlt' : ¬ (b.length : Int) < m := by omega
      have hmc : (m : Int) ≤ c1 := by omega
      have hm0 : (0 : Int) ≤ m := by omega
      go_enter Tryz.func97, Tryz.ntmps97
      go_wp2_with fail
      refine rp_enter [] (fun _ => True) (by kernel_rfl) ?_
      apply rp_pure 0 rfl (by kernel_rfl) (fun _ _ _ h => h) rfl
      · (intro W; go_simp; try rfl)
      · (go_simp; try rfl)
      apply rp_pure 1 rfl (by kernel_rfl) (fun _ _ _ h => h) rfl
      · (intro W; go_simp; try rfl)
      · (go_simp; try rfl)
      apply rp_pure 2 rfl (by kernel_rfl) (fun _ _ _ h => h) rfl
      · (intro W; go_simp; try rfl)
      · (go_simp; try rfl)
      apply rp_pure 4 rfl (by kernel_rfl) (fun _ _ _ h => h) rfl
      · (intro W; go_simp; try rfl)
      · (go_simp; try rfl)
      apply rp_pure 5 rfl (by kernel_rfl) (fun _ _ _ h => h) rfl
      · (intro W; go_simp; try rfl)
      · (go_simp; try rfl)
      apply rp_pure 6 rfl (by kernel_rfl) (fun _ _ _ h => h) rfl
      · (intro W; go_simp; try rfl)
      · (go_simp; try rfl)
      refine rp_only 3 (by kernel_rfl) rfl (fun K hK => ?_)
      have hcl := Lib.hid (bclone_any _ ((b.take m).drop 1) w.drew noM noM ((H1.out.take_ (i := m) (by omega)).dropU (i := 1) (by rw [List.length_take]; omega)) (by rw [List.length_drop, List.length_take]; omega))
      go_simp
      refine hcl.out.mono ?_
      rintro e w2 ⟨r2, rfl, ho2, hB2⟩
      have hcl2 := Lib.hid (bclone_any _ (b.drop m) w2 noM noM ((H1.out.mono (Keep.below ((below_drew w).trans hB2))).dropU (i := m) (by omega)) (by rw [List.length_drop]; omega))
      refine hK _ _ ⟨fun _ _ => trivial, ?_⟩; clear hK K
      refine rp_only 7 (by kernel_rfl) rfl (fun K hK => ?_)
      go_simp
      refine hcl2.out.mono ?_
      rintro e w3 ⟨r3, rfl, ho3, hB3⟩
      refine hK _ _ ⟨fun _ _ => trivial, ?_⟩; clear hK K
      have hlist : (b.take m).drop 1 = (b.drop 1).take (partN b) := by rw [List.drop_take]; congr 1; have := hN.out; omega
      have hdr : b.drop m = b.drop (1 + partN b) := by rw [hN.out]
      rw [hlist] at ho2
      rw [hdr] at ho3
      have HX := Lib.hid (And.intro (And.intro ((ho2.below hB3).mono_base (base' := w.heap.size) (below_drew w).size) (ho3.mono_base (base' := w.heap.size) hB2.size)) (((below_drew w).trans hB2).trans (hB3.mono hB2.size)))
      clear ho2 ho3 hB2 hB3 hcl hcl2 hlist hdr
      apply rp_pure 8 rfl (by kernel_rfl) (fun _ _ _ h => h) rfl
      · (intro W; go_simp; try rfl)
      · (go_simp; try rfl)
      apply rp_pure 9 rfl (by kernel_rfl) (fun _ _ _ h => h) rfl
      · (intro W; go_simp; try rfl)
      · (go_simp; try rfl)
      apply rp_pure 10 rfl (by kernel_rfl) (fun _ _ _ h => h) rfl
      · (intro W; go_simp; try rfl)
      · (go_simp; try rfl)
      refine rp_done (by kernel_rfl) ?_
      go_wp2
      all_goals
        go_ret3
        exact ⟨.inl ⟨hE.out, _, _, rfl, HX.out.1.1, HX.out.1.2⟩, HX.out.2⟩
end Go.Proofs.YteecmgonbdbhdaaGreatDoor
end

/-
Package table: whether a table is right.
-/
section
namespace Go.Proofs.YteecmgonbdbhdaaGreatDoor
open Go.RowKit
attribute [local go_sem ↓] Go.wp_at_zero Go.wp_at_succ

def ev (x : Ent) : Value := .agg #[.int .i64 x.stamp, .int .i64 x.sum, .bool x.lost]
def entOk (x : Ent) : Bool := num32 x.stamp && num32 x.sum
/-- Is one of them lost? -/
def lostAt (l : List Ent) (k : Nat) : Bool := (l[k]?.map Ent.lost).getD true
def okT (g : Geo) (l : List Ent) : Bool := okG g && decide ((l.length : Int) = g.d + 1) && l.all entOk && !lostAt l g.d.toNat

theorem wrong_any (x : Ent) (w : World) : Calls Tryz.prog 117 #[ev x] w fun e w' => e = .returned (.bool (!entOk x)) ∧ Below w.heap.size w w' := by
  have hB := Lib.hid ((Below.refl w.heap.size w).alloc (Nat.le_refl _) (.cells #[.int .i64 x.stamp, .int .i64 x.sum, .bool x.lost] 109))
  unfold ev
  have c1 := fun w => num_any x.stamp w
  have c2 := fun w => num_any x.sum w
  cases h1 : num32 x.stamp with
  | false =>
    have hE := Lib.hid (show (!entOk x) = true by simp [entOk, h1])
    simp only [h1] at c1
    clear h1 c2
    go_enter Tryz.func117, Tryz.ntmps117
    go_wp2_with (go_at_call 118; go_must (with_reducible refine (c1 _).mono ?_); rintro e w' ⟨rfl, rfl⟩)
    go_ret
    rw [hE.out]
    exact ⟨rfl, hB.out⟩
  | true =>
    cases h2 : num32 x.sum with
    | false =>
      have hE := Lib.hid (show (!entOk x) = true by simp [entOk, h1, h2])
      simp only [h1] at c1
      simp only [h2] at c2
      clear h1 h2
      go_enter Tryz.func117, Tryz.ntmps117
      go_wp2_with (go_at_call 118; go_must (first | (with_reducible refine (c1 _).mono ?_) | (with_reducible refine (c2 _).mono ?_)); rintro e w' ⟨rfl, rfl⟩)
      go_ret
      rw [hE.out]
      exact ⟨rfl, hB.out⟩
    | true =>
      have hE := Lib.hid (show (!entOk x) = false by simp [entOk, h1, h2])
      simp only [h1] at c1
      simp only [h2] at c2
      clear h1 h2
      go_enter Tryz.func117, Tryz.ntmps117
      go_wp2_with (go_at_call 118; go_must (first | (with_reducible refine (c1 _).mono ?_) | (with_reducible refine (c2 _).mono ?_)); rintro e w' ⟨rfl, rfl⟩)
      go_ret
      rw [hE.out]
      exact ⟨rfl, hB.out⟩

/-- The place of the first one of which q holds, or -1. -/
def idxP {α : Type} (q : α → Bool) (l : List α) : Int := match l.findIdx? q with | some k => k | none => -1
theorem idxP_hit {α : Type} {q : α → Bool} {l : List α} {k : Nat} (hk : k < l.length) (h : q l[k] = true) (hA : ∀ j (hj : j < l.length), j < k → q l[j] = false) : idxP q l = k := by
  have : l.findIdx? q = some k := List.findIdx?_eq_some_iff_getElem.2 ⟨hk, h, fun j hj => by rw [hA j (by omega) hj]; simp⟩
  simp [idxP, this]
theorem idxP_miss {α : Type} {q : α → Bool} {l : List α} (hA : ∀ j (hj : j < l.length), q l[j] = false) : idxP q l = -1 := by
  have : l.findIdx? q = none := List.findIdx?_eq_none_iff.2 fun x hx => by
    obtain ⟨j, hj, rfl⟩ := List.getElem_of_mem hx
    exact hA j hj
  simp [idxP, this]
theorem idxP_any {α : Type} (q : α → Bool) (l : List α) : decide (0 ≤ idxP q l) = l.any q := by
  unfold idxP
  cases h : l.findIdx? q with
  | some k =>
    obtain ⟨hk, h1, -⟩ := List.findIdx?_eq_some_iff_getElem.1 h
    have : l.any q = true := List.any_eq_true.2 ⟨_, List.getElem_mem hk, h1⟩
    rw [this]; simp
  | none =>
    have : l.any q = false := by
      rw [List.any_eq_false]
      intro x hx; rw [List.findIdx?_eq_none_iff.1 h x hx]; simp
    rw [this]; rfl

set_option maxHeartbeats 4000000 in
theorem ixE_any (v : Value) (l : List Ent) (w : World) (Mi : Ms) (h : SlR w Mi v l) (hl : l.length ≤ 1000000000) :
    Calls Tryz.prog 120 #[v, .func (.func 117) #[] #[]] w fun e w' => e = .returned (.int .i64 (idxP (fun x => !entOk x) l)) ∧ Below w.heap.size w w' := by
  obtain ⟨a, c, rfl⟩ := h.form
  have H := Lib.hid h.bare
  clear h
  go_enter Tryz.func120, Tryz.ntmps120
  go_wp2
  go_loopg [5, 8] l.length (fun g s5 s8 wr => ∃ k : Nat, s8 = .int .i64 k ∧ k ≤ l.length ∧ l.length - k ≤ g ∧ Hid (Below w.heap.size w wr) ∧ Hid (∀ j (hj : j < l.length), j < k → (!entOk l[j]) = false))
  case atStart => exact ⟨0, rfl, Nat.zero_le _, by omega, Lib.hid (Below.refl _ _), Lib.hid fun j _ hj => absurd hj (Nat.not_lt_zero _)⟩
  case round =>
    obtain ⟨k, rfl, hk, hg, hB, hA⟩ := hrel
    obtain ⟨w0, rfl⟩ : ∃ w0, w0 = wr := ⟨_, rfl⟩
    by_cases hlt : k < l.length
    · obtain ⟨b1, o1, rfl, -, x1, x2, x3⟩ := ent_at (H.out.mono (Keep.below hB.out)) hlt
      have hlt' : (k : Int) < l.length := by omega
      have hc := Lib.hid (wrong_any l[k] w0)
      unfold ev at hc
      cases hq : (!entOk l[k]) with
      | true =>
        have hE := Lib.hid (idxP_hit (q := fun x => !entOk x) hlt hq hA.out)
        rw [hq] at hc
        clear hq
        go_wp2_with (go_at_call 117; go_must (with_reducible refine hc.out.mono ?_); rintro e w' ⟨rfl, hB2⟩)
        go_ret
        rw [hE.out]
        exact ⟨rfl, hB.out.trans (hB2.mono hB.out.size)⟩
      | false =>
        have hE := Lib.hid (show ∀ j (hj : j < l.length), j < k + 1 → (!entOk l[j]) = false from fun j hj hjk => by
          by_cases e : j = k
          · subst e; exact hq
          · exact hA.out j hj (by omega))
        rw [hq] at hc
        clear hq
        go_wp2_with (go_at_call 117; go_must (with_reducible refine hc.out.mono ?_); rintro e w' ⟨rfl, hB2⟩)
        go_roundg (l.length - (k + 1))
        case measure => omega
        case rel => exact ⟨k + 1, by go_num, by omega, by omega, Lib.hid (hB.out.trans (hB2.mono hB.out.size)), hE⟩
    · obtain rfl : k = l.length := by omega
      have hE := Lib.hid (idxP_miss (q := fun x => !entOk x) (fun j hj => hA.out j hj hj))
      go_wp2
      go_ret
      rw [hE.out]
      exact ⟨rfl, hB.out⟩

set_option maxHeartbeats 4000000 in
theorem cfE_any (v : Value) (l : List Ent) (w : World) (Mi : Ms) (h : SlR w Mi v l) (hl : l.length ≤ 1000000000) :
    Calls Tryz.prog 119 #[v, .func (.func 117) #[] #[]] w fun e w' => e = .returned (.bool (!l.all entOk)) ∧ Below w.heap.size w w' := by
  have hc := Lib.hid (ixE_any v l w Mi h hl)
  have hE := Lib.hid (show (!l.all entOk) = decide (0 ≤ idxP (fun x => !entOk x) l) by rw [idxP_any, List.not_all_eq_any_not])
  obtain ⟨a, c, rfl⟩ := h.form
  rw [hE.out]
  clear h
  go_enter Tryz.func119, Tryz.ntmps119
  go_wp2_with (go_at_call 120; go_must (with_reducible refine hc.out.mono ?_); rintro e w' ⟨rfl, hB⟩)
  go_ret
  exact ⟨rfl, hB⟩

set_option maxHeartbeats 4000000 in
theorem tcheck_any (g : Geo) (v : Value) (l : List Ent) (w : World) (Mi : Ms) (h : SlR w Mi v l) (hl : l.length ≤ 1000000) :
    Calls Tryz.prog 116 #[gv g, .agg #[v]] w fun e w' => e = .returned (errV (okT g l)) ∧ Below w.heap.size w w' := by
  obtain ⟨a, c, rfl⟩ := h.form
  have hb1 := (Below.refl w.heap.size w).alloc (Nat.le_refl _) (.cells #[.int .i64 g.z, .int .i64 g.d, .int .i64 g.sp, .int .i64 g.sl, .int .i64 g.an] 23)
  have hb2 := hb1.alloc (by simp) (.cells #[.slice a l.length c] 85)
  have hG := (Blk.new w 23 #[.int .i64 g.z, .int .i64 g.d, .int .i64 g.sp, .int .i64 g.sl, .int .i64 g.an]).alloc (.cells #[.slice a l.length c] 85)
  have hT := Blk.new (w.alloc (.cells #[.int .i64 g.z, .int .i64 g.d, .int .i64 g.sp, .int .i64 g.sl, .int .i64 g.an] 23)) 85 #[.slice a l.length c]
  simp only [World.size_alloc] at hT
  have HB := Lib.hid hb2
  have HG := Lib.hid hG
  have HT := Lib.hid hT
  have H := Lib.hid (h.bare.mono (Keep.below hb2))
  have hgc := Lib.hid (gcheck_any g ((w.alloc (.cells #[.int .i64 g.z, .int .i64 g.d, .int .i64 g.sp, .int .i64 g.sl, .int .i64 g.an] 23)).alloc (.cells #[.slice a l.length c] 85)))
  unfold gv at hgc ⊢
  clear hb1 hb2 hG hT
  cases hok : okG g with
  | false =>
    have hE := Lib.hid (show okT g l = false by simp [okT, hok])
    rw [hok] at hgc
    clear hok
    unfold errV at hgc
    go_enter Tryz.func116, Tryz.ntmps116
    go_wp2_with (go_at_call 39; go_must (with_reducible refine hgc.out.mono ?_); rintro e w1 ⟨rfl, hB1⟩)
    go_ret
    rw [hE.out]
    exact ⟨rfl, HB.out.trans (hB1.mono HB.out.size)⟩
  | true =>
    rw [hok] at hgc
    unfold errV at hgc
    obtain ⟨z, d, sp, sl, an⟩ := g
    obtain ⟨-, hd, -⟩ := okG_iff.1 hok
    obtain ⟨k, rfl⟩ : ∃ k : Nat, d = k := ⟨d.toNat, by simp only at hd; omega⟩
    have hk1 : (1 : Int) ≤ k := hd.1
    have hk2 : (k : Int) ≤ 4 := hd.2
    have hk0 : (0 : Int) ≤ k := by omega
    clear hd
    simp only at hgc HB HG HT H ⊢
    by_cases hn : l.length = k + 1
    · have hn' : ((l.length : Int) != (k : Int) + 1) = false := by simp; omega
      have hN := Lib.hid hn
      clear hn
      have hrest := fun (w1 : World) (hB : Below w.heap.size w w1) => Lib.hid (cfE_any (.slice a l.length c) l w1 noM (h.bare.mono (Keep.below hB)) (by omega))
      cases hw : l.all entOk with
      | false =>
        have hE := Lib.hid (show okT ⟨z, k, sp, sl, an⟩ l = false by simp [okT, hw])
        have Hw := Lib.hid hw
        clear hok hw
        go_enter Tryz.func116, Tryz.ntmps116
        go_wp2_with fail
        ((with_reducible refine hgc.out.mono ?_); rintro e w1 ⟨rfl, hB1⟩)
        obtain ⟨g1, g2, g3⟩ := (HG.out.below hB1).all
        obtain ⟨t1, t2, t3⟩ := (HT.out.below hB1).all
        have HB1 := Lib.hid (HB.out.trans (hB1.mono HB.out.size))
        have hcf := hrest w1 HB1.out
        rw [Hw.out] at hcf
        go_wp2_with fail
        ((with_reducible refine hcf.out.mono ?_); rintro e w2 ⟨rfl, hB2⟩)
        go_wp2
        go_ret
        rw [hE.out]
        exact ⟨rfl, HB1.out.trans (hB2.mono HB1.out.size)⟩
      | true =>
        have hE := Lib.hid (show okT ⟨z, k, sp, sl, an⟩ l = !lostAt l k by simp [okT, hw, hok, hN.out])
        have Hw := Lib.hid hw
        have hkl : k < l.length := by have := hN.out; omega
        have hkl' : (k : Int) < l.length := by omega
        have hL := Lib.hid (show lostAt l k = l[k].lost by simp [lostAt, List.getElem?_eq_getElem hkl])
        clear hok hw
        go_enter Tryz.func116, Tryz.ntmps116
        go_wp2_with fail
        ((with_reducible refine hgc.out.mono ?_); rintro e w1 ⟨rfl, hB1⟩)
        obtain ⟨g1, g2, g3⟩ := (HG.out.below hB1).all
        obtain ⟨t1, t2, t3⟩ := (HT.out.below hB1).all
        have HB1 := Lib.hid (HB.out.trans (hB1.mono HB.out.size))
        have hcf := hrest w1 HB1.out
        rw [Hw.out] at hcf
        go_wp2_with fail
        ((with_reducible refine hcf.out.mono ?_); rintro e w2 ⟨rfl, hB2⟩)
        have HB2 := Lib.hid (HB1.out.trans (hB2.mono HB1.out.size))
        obtain ⟨G1, G2, G3⟩ := ((HG.out.below hB1).below hB2).all
        obtain ⟨T1, T2, T3⟩ := ((HT.out.below hB1).below hB2).all
        obtain ⟨bb, off, rfl, -, x1, x2, x3⟩ := ent_at (h.bare.mono (Keep.below HB2.out)) hkl
        cases hlo : l[k].lost with
        | false =>
          rw [hlo] at x3
          have hlo' := Lib.hid hlo
          clear hlo
          go_wp2
          go_ret
          rw [hE.out, hL.out, hlo'.out]
          exact ⟨rfl, HB2.out⟩
        | true =>
          rw [hlo] at x3
          have hlo' := Lib.hid hlo
          clear hlo
          go_wp2
          go_ret
          rw [hE.out, hL.out, hlo'.out]
          exact ⟨rfl, HB2.out⟩
    · have hn' : ((l.length : Int) != (k : Int) + 1) = true := by simp; omega
      have hE := Lib.hid (show okT ⟨z, k, sp, sl, an⟩ l = false by
        have : ¬ ((l.length : Int) = (k : Int) + 1) := by omega
        simp [okT, this])
      clear hok hn
      go_enter Tryz.func116, Tryz.ntmps116
      go_wp2_with fail
      ((with_reducible refine hgc.out.mono ?_); rintro e w1 ⟨rfl, hB1⟩)
      obtain ⟨g1, g2, g3⟩ := (HG.out.below hB1).all
      obtain ⟨t1, t2, t3⟩ := (HT.out.below hB1).all
      go_wp2
      go_ret
      rw [hE.out]
      exact ⟨rfl, HB.out.trans (hB1.mono HB.out.size)⟩
end Go.Proofs.YteecmgonbdbhdaaGreatDoor
end

/-
table.Bytes.
-/
section
namespace Go.Proofs.YteecmgonbdbhdaaGreatDoor
open Go.RowKit
attribute [local go_sem ↓] Go.wp_at_zero Go.wp_at_succ

def lostN (b : Bool) : Int := if b then 1 else 0
def entB (x : Ent) : List UInt8 := rowB [x.stamp, x.sum, lostN x.lost] [4, 4, 1]
def tblB (l : List Ent) : List UInt8 := (l.map entB).flatten
theorem tblB_step {l : List Ent} {k : Nat} (hk : k < l.length) : tblB (l.take (k + 1)) = tblB (l.take k) ++ entB l[k] := by
  unfold tblB
  rw [List.take_add_one, List.getElem?_eq_getElem hk, List.map_append, List.flatten_append]
  simp
theorem entB_len (x : Ent) : (entB x).length = 9 := by simp [entB, tot_rowB, tot]
theorem tblB_len (l : List Ent) : (tblB l).length = 9 * l.length := by
  unfold tblB
  induction l with
  | nil => rfl
  | cons x l ih => simp only [List.map_cons, List.flatten_cons, List.length_append, entB_len, ih, List.length_cons]; omega
theorem num32_iff {n : Int} : num32 n = true ↔ 0 ≤ n ∧ n < 4294967296 := by unfold num32; rw [inB_iff]; omega
theorem ent_fits {x : Ent} (h : entOk x = true) : ∀ k (_ : k < [x.stamp, x.sum, lostN x.lost].length) (b : k < [(4 : Int), 4, 1].length), szOk [(4 : Int), 4, 1][k] ∧ 0 ≤ [x.stamp, x.sum, lostN x.lost][k] ∧ [x.stamp, x.sum, lostN x.lost][k] < limS [(4 : Int), 4, 1][k] := by
  simp only [entOk, Bool.and_eq_true, num32_iff] at h
  intro k a _
  match k, a with
  | 0, _ => exact ⟨.inr (.inr rfl), h.1.1, h.1.2⟩
  | 1, _ => exact ⟨.inr (.inr rfl), h.2.1, h.2.2⟩
  | 2, _ => refine ⟨.inl rfl, ?_, ?_⟩ <;> (simp only [List.getElem_cons_succ, List.getElem_cons_zero]; unfold lostN; split <;> decide)

theorem row_lit (ns ss : List Int) (W : World) (hl : ns.length = ss.length) (hn : ns.length ≤ 1000) (hf : ∀ k (a : k < ns.length) (b : k < ss.length), szOk ss[k] ∧ 0 ≤ ns[k] ∧ ns[k] < limS ss[k]) :
    Calls Tryz.prog 89 #[.slice (some ⟨W.heap.size, 0, none⟩) ns.length ns.length, .slice (some ⟨W.heap.size + 1, 0, none⟩) ss.length ss.length]
      ((W.alloc (.cells (ns.map (Value.int .i64)).toArray 3)).alloc (.cells (ss.map (Value.int .i64)).toArray 3)) fun e w' =>
      ∃ r, e = .returned (.tuple #[r, .int .i64 0]) ∧ OwR w' noM W.heap.size 5 r (rowB ns ss) ∧ Below W.heap.size W w' := by
  have h1 := (OwR.litI W noM ns hn).alloc (.cells (ss.map (Value.int .i64)).toArray 3)
  have h2 := OwR.litI (W.alloc (.cells (ns.map (Value.int .i64)).toArray 3)) noM ss (by omega)
  have hb := ((Below.refl W.heap.size W).alloc (Nat.le_refl _) (.cells (ns.map (Value.int .i64)).toArray 3)).alloc (by simp) (.cells (ss.map (Value.int .i64)).toArray 3)
  rw [World.size_alloc] at h2
  refine (row_any _ _ ns ss _ noM noM noM (h1.sl fun _ _ h => h) (h2.sl fun _ _ h => h) hl hn hf).mono fun e w' ⟨r, he, ho, hB⟩ => ⟨r, he, ho.mono_base hb.size, hb.trans (hB.mono hb.size)⟩
def TbytesP (w' : World) (base : Nat) (g : Geo) (l : List Ent) (e : Ending) : Prop :=
  (okT g l = true ∧ ∃ v, e = .returned (.tuple #[v, .int .i64 0]) ∧ OwR w' noM base 5 v (tblB l)) ∨ (okT g l = false ∧ e = .returned (.tuple #[.slice none 0 0, .int .i64 1]))

set_option maxRecDepth 100000 in
set_option maxHeartbeats 8000000 in
theorem tbytes_any (g : Geo) (v : Value) (l : List Ent) (w : World) (Mi : Ms) (h : SlR w Mi v l) (hl : l.length ≤ 100000) :
    Calls Tryz.prog 115 #[gv g, .agg #[v]] w fun e w' => TbytesP w' w.heap.size g l e ∧ Below w.heap.size w w' := by
  obtain ⟨a, c, rfl⟩ := h.form
  have hb1 := (Below.refl w.heap.size w).alloc (Nat.le_refl _) (.cells #[.int .i64 g.z, .int .i64 g.d, .int .i64 g.sp, .int .i64 g.sl, .int .i64 g.an] 23)
  have hb2 := hb1.alloc (by simp) (.cells #[.slice a l.length c] 85)
  have hT := Blk.new (w.alloc (.cells #[.int .i64 g.z, .int .i64 g.d, .int .i64 g.sp, .int .i64 g.sl, .int .i64 g.an] 23)) 85 #[.slice a l.length c]
  simp only [World.size_alloc] at hT
  have HB := Lib.hid hb2
  have HT := Lib.hid hT
  have H := Lib.hid h.bare
  have hck := Lib.hid (tcheck_any g _ l _ noM (h.bare.mono (Keep.below hb2)) (by omega))
  unfold gv at hck ⊢
  clear hb1 hb2 hT h
  cases hok : okT g l with
  | false =>
    have hE := Lib.hid hok
    rw [hok] at hck
    unfold errV at hck
    clear hok
    go_enter Tryz.func115, Tryz.ntmps115
    go_wp2_with fail
    ((with_reducible refine hck.out.mono ?_); rintro e w1 ⟨rfl, hB1⟩)
    go_wp2
    go_ret2
    exact ⟨.inr ⟨hE.out, rfl⟩, HB.out.trans (hB1.mono HB.out.size)⟩
  | true =>
    have hE := Lib.hid hok
    have hall : Hid (∀ x ∈ l, entOk x = true) := Lib.hid (by
      simp only [okT, Bool.and_eq_true, List.all_eq_true] at hok
      exact hok.1.2)
    rw [hok] at hck
    unfold errV at hck
    clear hok
    go_enter Tryz.func115, Tryz.ntmps115
    go_wp2_with fail
    ((with_reducible refine hck.out.mono ?_); rintro e w1 ⟨rfl, hB1⟩)
    obtain ⟨t1, t2, t3⟩ := (HT.out.below hB1).all
    have HB1 := Lib.hid (HB.out.trans (hB1.mono HB.out.size))
    clear hB1
    go_wp2
    clear t1 t2 t3
    go_loopg [7, 22] l.length (fun g s7 s22 wr => ∃ k : Nat, s22 = .int .i64 k ∧ k ≤ l.length ∧ l.length - k ≤ g ∧ Hid (OwR wr noM w.heap.size 5 s7 (tblB (l.take k)) ∧ Below w.heap.size w wr))
    case atStart => exact ⟨0, rfl, Nat.zero_le _, by omega, Lib.hid ⟨OwR.nil _ _ _ _, HB1.out⟩⟩
    case round =>
      obtain ⟨k, rfl, hkl, hg, hI⟩ := hrel
      obtain ⟨w0, rfl⟩ : ∃ w0, w0 = wr := ⟨_, rfl⟩
      by_cases hlt : k < l.length
      · obtain ⟨ho, hB⟩ := hI.out
        obtain ⟨b1, o1, rfl, -, x1, x2, x3⟩ := ent_at (H.out.mono (Keep.below hB)) hlt
        have hlt' : (k : Int) < l.length := by omega
        have hst := Lib.hid (tblB_step hlt)
        have hfit := Lib.hid (ent_fits (hall.out l[k] (List.getElem_mem hlt)))
        have hol := tblB_len (l.take k)
        rw [List.length_take] at hol
        have hol := Lib.hid hol
        have HO := Lib.hid ho
        have HB0 := Lib.hid hB
        clear ho hB hI
        cases hlo : l[k].lost with
        | false =>
          rw [hlo] at x3
          have hrow := row_lit [l[k].stamp, l[k].sum, lostN l[k].lost] [4, 4, 1] (w0.alloc (.cells #[.int .i64 l[k].stamp, .int .i64 l[k].sum, .bool l[k].lost] 109)) rfl (by simp) hfit.out
          have hlB := (Below.refl w0.heap.size w0).alloc (Nat.le_refl _) (.cells #[.int .i64 l[k].stamp, .int .i64 l[k].sum, .bool l[k].lost] 109)
          have hen := Lib.hid (show rowB [l[k].stamp, l[k].sum, lostN l[k].lost] [4, 4, 1] = entB l[k] from rfl)
          rw [hen.out, hlo] at hrow
          rw [hlo] at hlB
          simp only [lostN, List.map_cons, List.map_nil, List.length_cons, List.length_nil, Nat.reduceAdd, Bool.false_eq_true, if_false, World.size_alloc] at hrow
          have hrow := Lib.hid hrow
          have hlB := Lib.hid hlB
          clear hlo
          have hel := entB_len l[k]
          have hbd : (tblB (l.take k)).length + (entB l[k]).length ≤ 1000000000 := by rw [hol.out, hel]; omega
          clear hel
          obtain ⟨eb, heb⟩ : ∃ eb, eb = entB l[k] := ⟨_, rfl⟩
          rw [← heb] at hrow hst hbd
          clear heb hen
          go_wp2_with fail
          ((with_reducible refine hrow.out.mono ?_); rintro e w2 ⟨r2, rfl, ho2, hB2⟩)
          have HB2 := Lib.hid (hlB.out.trans (hB2.mono (Nat.le_succ _)))
          have O7 := Lib.hid (HO.out.below HB2.out)
          have HB3 := Lib.hid (HB0.out.trans (HB2.out.mono HB0.out.size))
          have ho2 := ho2.mono_base (Nat.le_succ _)
          obtain ⟨A2, C2, rfl⟩ := ho2.form
          have hS := Lib.hid (show SlR w2 (fun b => noM b ∨ u7.ownBlock = some b) (.slice A2 eb.length C2) eb from (OwR.pl plU ho2).sl' (fun b hb hm => hm.elim (fun h => h) (fun h => by have a1 := HO.out.own_lt h; have a2 := ho2.own_ge hb; omega)))
          clear ho2 hB2 hrow
          go_wp2_with (at_builtin; go_must (refine wpList_append_R (α := UInt8) (M := noM) (base := w.heap.size) (l := tblB (l.take k)) (m := eb) rfl (by rfl) tyB (by rfl) O7.out (by rfl) hS.out hbd HB3.out.size ?_); intro v4 w4 ho4 hg4 hat4)
          go_roundg (l.length - (k + 1))
          case measure => omega
          case rel => exact ⟨k + 1, by go_num, by omega, by omega, Lib.hid ⟨by rw [hst.out]; exact ho4, HB3.out.grown hg4 HB3.out.size (fun b e => O7.out.own_ge e)⟩⟩
        | true =>
          rw [hlo] at x3
          have hrow := row_lit [l[k].stamp, l[k].sum, lostN l[k].lost] [4, 4, 1] (w0.alloc (.cells #[.int .i64 l[k].stamp, .int .i64 l[k].sum, .bool l[k].lost] 109)) rfl (by simp) hfit.out
          have hlB := (Below.refl w0.heap.size w0).alloc (Nat.le_refl _) (.cells #[.int .i64 l[k].stamp, .int .i64 l[k].sum, .bool l[k].lost] 109)
          have hen := Lib.hid (show rowB [l[k].stamp, l[k].sum, lostN l[k].lost] [4, 4, 1] = entB l[k] from rfl)
          rw [hen.out, hlo] at hrow
          rw [hlo] at hlB
          simp only [lostN, List.map_cons, List.map_nil, List.length_cons, List.length_nil, Nat.reduceAdd, if_true, World.size_alloc] at hrow
          have hrow := Lib.hid hrow
          have hlB := Lib.hid hlB
          clear hlo
          have hel := entB_len l[k]
          have hbd : (tblB (l.take k)).length + (entB l[k]).length ≤ 1000000000 := by rw [hol.out, hel]; omega
          clear hel
          obtain ⟨eb, heb⟩ : ∃ eb, eb = entB l[k] := ⟨_, rfl⟩
          rw [← heb] at hrow hst hbd
          clear heb hen
          go_wp2_with fail
          ((with_reducible refine hrow.out.mono ?_); rintro e w2 ⟨r2, rfl, ho2, hB2⟩)
          have HB2 := Lib.hid (hlB.out.trans (hB2.mono (Nat.le_succ _)))
          have O7 := Lib.hid (HO.out.below HB2.out)
          have HB3 := Lib.hid (HB0.out.trans (HB2.out.mono HB0.out.size))
          have ho2 := ho2.mono_base (Nat.le_succ _)
          obtain ⟨A2, C2, rfl⟩ := ho2.form
          have hS := Lib.hid (show SlR w2 (fun b => noM b ∨ u7.ownBlock = some b) (.slice A2 eb.length C2) eb from (OwR.pl plU ho2).sl' (fun b hb hm => hm.elim (fun h => h) (fun h => by have a1 := HO.out.own_lt h; have a2 := ho2.own_ge hb; omega)))
          clear ho2 hB2 hrow
          go_wp2_with (at_builtin; go_must (refine wpList_append_R (α := UInt8) (M := noM) (base := w.heap.size) (l := tblB (l.take k)) (m := eb) rfl (by rfl) tyB (by rfl) O7.out (by rfl) hS.out hbd HB3.out.size ?_); intro v4 w4 ho4 hg4 hat4)
          go_roundg (l.length - (k + 1))
          case measure => omega
          case rel => exact ⟨k + 1, by go_num, by omega, by omega, Lib.hid ⟨by rw [hst.out]; exact ho4, HB3.out.grown hg4 HB3.out.size (fun b e => O7.out.own_ge e)⟩⟩
      · obtain rfl : k = l.length := by omega
        rw [List.take_length] at hI
        go_wp2
        go_ret2
        exact ⟨.inl ⟨hE.out, _, rfl, hI.out.1⟩, hI.out.2⟩
end Go.Proofs.YteecmgonbdbhdaaGreatDoor
end

/-
bytes.Equal.
-/
section
namespace Go.Proofs.YteecmgonbdbhdaaGreatDoor
open Go.RowKit
attribute [local go_sem ↓] Go.wp_at_zero Go.wp_at_succ

/-- What `string(b)` is. -/
theorem conv_any (v : Value) (l : List UInt8) (w : World) (Mi : Ms) (h : SlR w Mi v l) : (convert 52 9 v).run Tryz.prog w = .ok (.string (strOfNums (l.map fun x => (x.toNat : Int)))) w := by
  by_cases hl : l = []
  · subst hl
    obtain ⟨a, c, rfl⟩ := h.form
    rw [List.length_nil, run_convert_bytes_string w 52 9 5 _ 0 c Tryz.underlying52 Tryz.underlying5 Tryz.underlying9]
    cases a <;> simp [Conv.bytesToString, loadCells]
    all_goals rfl
  · have hpos : 0 < l.length := List.length_pos_iff.2 hl
    obtain ⟨a, c, rfl⟩ := h.form
    obtain ⟨b, off, rfl, -, -⟩ := u8_at h hpos
    refine run_convert_bytes_arg (P := Tryz.prog) w 52 5 Tryz.underlying52 Tryz.underlying5 b off l.length c _ (by simp) (fun i hi => ?_) 9 Tryz.underlying9
    obtain ⟨b', off', e, -, x⟩ := u8_at h hi
    cases e
    rw [x, List.getD_eq_getElem?_getD, List.getElem?_map, List.getElem?_eq_getElem hi]
    rfl
theorem strOf_list (l : List UInt8) : Lib.bytesOf (l.map fun x => (x.toNat : Int)) = l := by
  unfold Lib.bytesOf
  rw [List.map_map]
  conv => rhs; rw [← List.map_id l]
  apply List.map_congr_left
  intro x _
  simp

set_option maxHeartbeats 1000000 in
theorem equal_any (v1 v2 : Value) (l1 l2 : List UInt8) (w : World) (M1 M2 : Ms) (h1 : SlR w M1 v1 l1) (h2 : SlR w M2 v2 l2) :
    Calls Tryz.prog 100 #[v1, v2] w fun e w' => e = .returned (.bool (decide (l1 = l2))) ∧ w' = w := by
  have c1 := conv_any v1 l1 w M1 h1
  have c2 := conv_any v2 l2 w M2 h2
  have hE : decide (l1 = l2) = (Lib.bytesOf (l1.map fun x => (x.toNat : Int)) == Lib.bytesOf (l2.map fun x => (x.toNat : Int))) := by rw [strOf_list, strOf_list]; by_cases h : l1 = l2 <;> simp [h]
  rw [hE, ← Lib.strOfNums_toList, ← Lib.strOfNums_toList]
  obtain ⟨s1, hs1⟩ : ∃ s, s = strOfNums (l1.map fun x => (x.toNat : Int)) := ⟨_, rfl⟩
  obtain ⟨s2, hs2⟩ : ∃ s, s = strOfNums (l2.map fun x => (x.toNat : Int)) := ⟨_, rfl⟩
  rw [← hs1] at c1 ⊢
  rw [← hs2] at c2 ⊢
  clear hE hs1 hs2 h1 h2
  go_enter Tryz.func100, Tryz.ntmps100
  go_wp2
  go_ret
  exact ⟨rfl, rfl⟩
end Go.Proofs.YteecmgonbdbhdaaGreatDoor
end

/-
table.Read.
-/
section
namespace Go.Proofs.YteecmgonbdbhdaaGreatDoor
open Go.RowKit
attribute [local go_sem ↓] Go.wp_at_zero Go.wp_at_succ

/-- The entry that nine bytes are. -/
def entOf (b : List UInt8) : Ent := ⟨(nums [4, 4, 1] b).getD 0 0, (nums [4, 4, 1] b).getD 1 0, (nums [4, 4, 1] b).getD 2 0 == 1⟩
def entsOf : Nat → List UInt8 → List Ent
  | 0, _ => []
  | n + 1, b => entOf b :: entsOf n (b.drop 9)
theorem entsOf_step : ∀ (n : Nat) (b : List UInt8), entsOf (n + 1) b = entsOf n b ++ [entOf (b.drop (9 * n))]
  | 0, b => by simp [entsOf]
  | n + 1, b => by
    rw [entsOf, entsOf_step n (b.drop 9), entsOf, List.drop_drop]
    simp only [List.cons_append]
    rw [show 9 + 9 * n = 9 * (n + 1) by omega]
theorem entsOf_len : ∀ (n : Nat) (b : List UInt8), (entsOf n b).length = n
  | 0, _ => rfl
  | n + 1, b => by simp [entsOf, entsOf_len n]
/-- The table that bytes are. -/
def readT (g : Geo) (b : List UInt8) : Option (List Ent) := if okT g (entsOf (g.d + 1).toNat b) = true ∧ tblB (entsOf (g.d + 1).toNat b) = b then some (entsOf (g.d + 1).toNat b) else none
theorem readT_short {g : Geo} {b : List UInt8} (h : b.length < 9 * (g.d + 1).toNat) : readT g b = none := by
  unfold readT
  rw [if_neg]
  rintro ⟨-, h2⟩
  have := congrArg List.length h2
  rw [tblB_len, entsOf_len] at this
  omega
theorem OwR.int3 {w : World} {M : Ms} {base : Nat} {e : TypeId} {v : Value} {x y z : Int} (h : OwR w M base e v [x, y, z]) : ∃ B c, v = .slice (some ⟨B, 0, none⟩) 3 c ∧ base ≤ B ∧ w.cell? ⟨B, 0, none⟩ = some (.int .i64 x) ∧ w.cell? ⟨B, 1, none⟩ = some (.int .i64 y) ∧ w.cell? ⟨B, 2, none⟩ = some (.int .i64 z) := by
  obtain ⟨B, c, cs, rfl, hb, -, -, he, hc⟩ := h.at_ (k := 0) (by simp)
  obtain ⟨B1, c1, cs1, e1, -, -, -, he1, hc1⟩ := h.at_ (k := 1) (by simp)
  obtain ⟨B2, c2, cs2, e2, -, -, -, he2, hc2⟩ := h.at_ (k := 2) (by simp)
  cases e1; cases e2
  have he : cs = [.int .i64 x] := he
  have he1 : cs1 = [.int .i64 y] := he1
  have he2 : cs2 = [.int .i64 z] := he2
  subst he he1 he2
  exact ⟨B, c, rfl, hb, hc 0 _ rfl, hc1 0 _ rfl, hc2 0 _ rfl⟩
theorem nums3 (b : List UInt8) : ∃ x y z, nums [4, 4, 1] b = [x, y, z] ∧ entOf b = ⟨x, y, z == 1⟩ := ⟨_, _, _, rfl, rfl⟩
instance (s : Int) : Decidable (szOk s) := inferInstanceAs (Decidable (s = 1 ∨ s = 2 ∨ s = 4))
def TreadP (w' : World) (base : Nat) (g : Geo) (b : List UInt8) (e : Ending) : Prop :=
  (okG g = false ∧ e = .returned (.tuple #[.agg #[.slice none 0 0], .int .i64 1])) ∨
  (okG g = true ∧ readT g b = none ∧ e = .returned (.tuple #[.agg #[.slice none 0 0], .int .i64 4])) ∨
  (okG g = true ∧ ∃ v l, readT g b = some l ∧ e = .returned (.tuple #[.agg #[v], .int .i64 0]) ∧ OwR w' noM base 109 v l)

set_option maxRecDepth 100000 in
set_option maxHeartbeats 8000000 in
theorem tread_any (g : Geo) (v : Value) (b : List UInt8) (w : World) (Mi : Ms) (h : SlR w Mi v b) (hl : b.length ≤ 100000) :
    Calls Tryz.prog 111 #[gv g, v] w fun e w' => TreadP w' w.heap.size g b e ∧ Below w.heap.size w w' := by
  obtain ⟨a, c, rfl⟩ := h.form
  have hb1 := (Below.refl w.heap.size w).alloc (Nat.le_refl _) (.cells #[.int .i64 g.z, .int .i64 g.d, .int .i64 g.sp, .int .i64 g.sl, .int .i64 g.an] 23)
  have hb2 := hb1.alloc (by simp) (.cells #[.slice none 0 0] 85)
  have hG := (Blk.new w 23 #[.int .i64 g.z, .int .i64 g.d, .int .i64 g.sp, .int .i64 g.sl, .int .i64 g.an]).alloc (.cells #[.slice none 0 0] 85)
  have hR := Blk.new (w.alloc (.cells #[.int .i64 g.z, .int .i64 g.d, .int .i64 g.sp, .int .i64 g.sl, .int .i64 g.an] 23)) 85 #[.slice none 0 0]
  simp only [World.size_alloc] at hR
  have HB := Lib.hid hb2
  have HG := Lib.hid hG
  have HR := Lib.hid hR
  have H := Lib.hid h.bare
  have hck := Lib.hid (gcheck_any g ((w.alloc (.cells #[.int .i64 g.z, .int .i64 g.d, .int .i64 g.sp, .int .i64 g.sl, .int .i64 g.an] 23)).alloc (.cells #[.slice none 0 0] 85)))
  unfold gv at hck ⊢
  clear hb1 hb2 hG hR h
  cases hok : okG g with
  | false =>
    have hE := Lib.hid hok
    rw [hok] at hck
    unfold errV at hck
    clear hok
    go_enter Tryz.func111, Tryz.ntmps111
    go_wp2_with fail
    ((with_reducible refine hck.out.mono ?_); rintro e w1 ⟨rfl, hB1⟩)
    obtain ⟨r1, r2, r3⟩ := (HR.out.below hB1).all
    have hx := ((HR.out.below hB1).set_ 0 (.slice none 0 0)).cell 0
    go_wp2
    refine bodyPost_ret (v := .tuple #[.agg #[.slice none 0 0], .int .i64 1]) (by simp [results, Tryz.results111, go_sem, hx]) rfl ?_
    exact ⟨.inl ⟨hE.out, rfl⟩, (HB.out.trans (hB1.mono HB.out.size)).setCell (p := ⟨w.heap.size + 1, 0, none⟩) (Nat.le_succ _) _⟩
  | true =>
    have hE := Lib.hid hok
    rw [hok] at hck
    unfold errV at hck
    obtain ⟨z, d, sp, sl, an⟩ := g
    obtain ⟨-, hd, -⟩ := okG_iff.1 hok
    obtain ⟨n, rfl⟩ : ∃ k : Nat, d = k := ⟨d.toNat, by simp only at hd; omega⟩
    have hk1 : (1 : Int) ≤ n := hd.1
    have hk2 : (n : Int) ≤ 4 := hd.2
    clear hd hok
    simp only at hck HB HG HR H ⊢
    go_enter Tryz.func111, Tryz.ntmps111
    go_wp2_with fail
    ((with_reducible refine hck.out.mono ?_); rintro e w1 ⟨rfl, hB1⟩)
    obtain ⟨g1, g2, g3⟩ := (HG.out.below hB1).all
    have hbA := (Below.refl w1.heap.size w1).alloc (Nat.le_refl _) (.cells #[.slice none 0 0] 85)
    have HBA := Lib.hid ((HB.out.trans (hB1.mono HB.out.size)).trans (hbA.mono (Nat.le_trans HB.out.size hB1.size)))
    have HGA := Lib.hid ((HG.out.below hB1).below hbA)
    have HRA := Lib.hid ((HR.out.below hB1).below hbA)
    have HQA := Lib.hid (Blk.new w1 85 #[.slice none 0 0])
    have HQ := Lib.hid (show w.heap.size + 1 < w1.heap.size from (HR.out.below hB1).lt)
    clear hB1 hbA hck HB HG HR
    go_wp2_with fail
    clear g1 g2 g3
    have hw0 : IntKind.i64.wrap ((n : Int) + 1) = n + 1 := by rw [IntKind.wrap_i64]; omega
    go_loopg [7, 21] (n + 1) (fun g s7 s21 wr => ∃ k : Nat, s21 = .int .i64 k ∧ k ≤ n + 1 ∧ n + 1 - k ≤ g ∧ Hid (9 * k ≤ b.length ∧ (∃ vE, Blk wr w1.heap.size 85 #[vE] ∧ OwR wr noM w.heap.size 109 vE (entsOf k b)) ∧ SlR wr noM s7 (b.drop (9 * k)) ∧
      Blk wr w.heap.size 23 #[.int .i64 z, .int .i64 n, .int .i64 sp, .int .i64 sl, .int .i64 an] ∧ Blk wr (w.heap.size + 1) 85 #[.slice none 0 0] ∧ Below w.heap.size w wr))
    case atStart => exact ⟨0, rfl, Nat.zero_le _, by omega, Lib.hid ⟨by omega, ⟨_, HQA.out, OwR.nil _ _ _ _⟩, by simpa using H.out.mono (Keep.below HBA.out), HGA.out, HRA.out, HBA.out⟩⟩
    case round =>
      obtain ⟨k, rfl, hkl, hg, hI⟩ := hrel
      obtain ⟨w0, rfl⟩ : ∃ w0, w0 = wr := ⟨_, rfl⟩
      obtain ⟨hT, ⟨vE, hQ, hoE⟩, hs7, hG, hR, hB⟩ := hI.out
      by_cases hlt : k < n + 1
      · have hlt' : (k : Int) < n + 1 := by omega
        obtain ⟨R, hR0⟩ : ∃ R, R = b.drop (9 * k) := ⟨_, rfl⟩
        rw [← hR0] at hs7
        have hRl : R.length = b.length - 9 * k := by rw [hR0, List.length_drop]
        obtain ⟨a7, c7, rfl⟩ := hs7.form
        have hbl := (Below.refl w0.heap.size w0).alloc (Nat.le_refl _) (.cells #[.int .i64 4, .int .i64 4, .int .i64 1] 3)
        have hun := Lib.hid (unrow_any _ _ R [4, 4, 1] _ noM noM (hs7.mono (Keep.below hbl)) ((OwR.litI w0 noM [4, 4, 1] (by simp)).sl (fun _ _ h => h)) (by decide) (by omega) (by simp))
        simp only [List.length_cons, List.length_nil, Nat.reduceAdd] at hun
        have HI := Lib.hid (And.intro hT (And.intro hQ (And.intro hoE (And.intro hG (And.intro hR hB)))))
        have HBL := Lib.hid hbl
        have HRe := Lib.hid (And.intro hR0 hRl)
        clear hT hQ hoE hs7 hG hR hB hI hbl hR0 hRl
        go_wp2_with fail
        ((with_reducible refine hun.out.mono ?_); rintro e w2 ⟨hU, hB2⟩)
        have HB2 := Lib.hid (HBL.out.trans (hB2.mono (by simp)))
        obtain ⟨iT, iQ, iE, iG, iR, iB⟩ := HI.out
        rcases hU with ⟨hfit, v1, v2, rfl, ho1, ho2⟩ | ⟨hfew, rfl⟩
        · obtain ⟨x, y, t, hn3, hent⟩ := nums3 R
          rw [hn3] at ho1
          obtain ⟨B, cB, rfl, hBB, y0, y1, y2⟩ := ho1.int3
          have q1 := (iQ.below HB2.out).cell 0
          have HX := Lib.hid (And.intro hfit (And.intro ho2 (And.intro hn3 hent)))
          clear hfit ho1 ho2 hn3 hent iT iQ iE iG iR iB hB2
          have hS := Lib.hid (show w2.drew.cell? ⟨w1.heap.size, 0, none⟩ = some vE ∧ w2.drew.cell? ⟨B, 0, none⟩ = some (.int .i64 x) ∧ w2.drew.cell? ⟨B, 1, none⟩ = some (.int .i64 y) ∧ w2.drew.cell? ⟨B, 2, none⟩ = some (.int .i64 t) from ⟨q1, y0, y1, y2⟩)
          clear q1 y0 y1 y2
          go_wp2_with fail
          refine rp_enter [1, 4, 7, 10] (fun W => W.cell? ⟨w1.heap.size, 0, none⟩ = some vE ∧ W.cell? ⟨B, 0, none⟩ = some (.int .i64 x) ∧ W.cell? ⟨B, 1, none⟩ = some (.int .i64 y) ∧ W.cell? ⟨B, 2, none⟩ = some (.int .i64 t)) (by kernel_rfl) ?_
          apply rp_pure 0 rfl (by kernel_rfl) (fun _ _ _ h => h) rfl
          · (intro W; go_simp; try rfl)
          · (go_simp; try rfl)
          apply rp_take 1 rfl (by kernel_rfl) (fun _ _ _ h => h) (hS.out) rfl
          · (rintro W ⟨s0, s1, s2, s3⟩; go_simp; try rfl)
          · (go_simp; try rfl)
          apply rp_pure 2 rfl (by kernel_rfl) (fun _ _ _ h => h) rfl
          · (intro W; go_simp; try rfl)
          · (go_simp; try rfl)
          apply rp_pure 3 rfl (by kernel_rfl) (fun _ _ _ h => h) rfl
          · (intro W; go_simp; try rfl)
          · (go_simp; try rfl)
          apply rp_take 4 rfl (by kernel_rfl) (fun _ _ _ h => h) (hS.out) rfl
          · (rintro W ⟨s0, s1, s2, s3⟩; go_simp; try rfl)
          · (go_simp; try rfl)
          apply rp_pure 5 rfl (by kernel_rfl) (fun _ _ _ h => h) rfl
          · (intro W; go_simp; try rfl)
          · (go_simp; try rfl)
          apply rp_pure 6 rfl (by kernel_rfl) (fun _ _ _ h => h) rfl
          · (intro W; go_simp; try rfl)
          · (go_simp; try rfl)
          apply rp_take 7 rfl (by kernel_rfl) (fun _ _ _ h => h) (hS.out) rfl
          · (rintro W ⟨s0, s1, s2, s3⟩; go_simp; try rfl)
          · (go_simp; try rfl)
          apply rp_pure 8 rfl (by kernel_rfl) (fun _ _ _ h => h) rfl
          · (intro W; go_simp; try rfl)
          · (go_simp; try rfl)
          apply rp_pure 9 rfl (by kernel_rfl) (fun _ _ _ h => h) rfl
          · (intro W; go_simp; try rfl)
          · (go_simp; try rfl)
          apply rp_take 10 rfl (by kernel_rfl) (fun _ _ _ h => h) (hS.out) rfl
          · (rintro W ⟨s0, s1, s2, s3⟩; go_simp; try rfl)
          · (go_simp; try rfl)
          apply rp_pure 11 rfl (by kernel_rfl) (fun _ _ _ h => h) rfl
          · (intro W; go_simp; try rfl)
          · (go_simp; try rfl)
          apply rp_pure 12 rfl (by kernel_rfl) (fun _ _ _ h => h) rfl
          · (intro W; go_simp; try rfl)
          · (go_simp; try rfl)
          refine rp_only 13 (by kernel_rfl) rfl (fun K hK => ?_)
          go_simp
          have hbA := (Below.refl w2.heap.size w2).alloc (Nat.le_refl _) (.cells #[.int .i64 x, .int .i64 y, .bool (t == 1)] 109)
          have hbD := hbA.drew
          have hS2 := Lib.hid (And.intro (below_cell hbD hS.out.1) (And.intro (below_cell hbD hS.out.2.1) (And.intro (below_cell hbD hS.out.2.2.1) (below_cell hbD hS.out.2.2.2))))
          obtain ⟨iT, iQ, iE, iG, iR, iB⟩ := HI.out
          have HBD := Lib.hid (HB2.out.trans (hbD.mono HB2.out.size))
          have O3 := Lib.hid (iE.below HBD.out)
          have HB3 := Lib.hid (iB.trans (HBD.out.mono iB.size))
          have hS3 := Lib.hid (show SlR (w2.alloc (.cells #[.int .i64 x, .int .i64 y, .bool (t == 1)] 109)).drew (fun b => noM b ∨ vE.ownBlock = some b) (.slice (some ⟨w2.heap.size, 0, none⟩) 1 1) [(⟨x, y, t == 1⟩ : Ent)] from
            SlR.one ((Blk.new w2 109 #[.int .i64 x, .int .i64 y, .bool (t == 1)]).drew) rfl (fun h' => h'.elim (fun h => h) (fun h => by have := iE.own_lt h; have := HB2.out.size; omega)))
          have hlk : (entsOf k b).length + 1 ≤ 1000000000 := by rw [entsOf_len]; omega
          clear iT iQ iE iG iR iB hbA hbD
          refine hK _ _ ⟨fun _ _ => hS2.out, ?_⟩; clear hK K
          refine rp_only 14 (by kernel_rfl) rfl (fun K hK => ?_)
          refine step_append_R (α := Ent) (M := noM) (base := w.heap.size) (l := entsOf k b) (m := [(⟨x, y, t == 1⟩ : Ent)]) rfl (by rfl) tyE (by rfl) O3.out (by rfl) hS3.out (by simpa using hlk) HB3.out.size ?_
          intro v4 w4 ho4 hg4 hat4
          obtain ⟨L4, hL4⟩ : ∃ L4, L4 = entsOf k b ++ [(⟨x, y, t == 1⟩ : Ent)] := ⟨_, rfl⟩
          rw [← hL4] at ho4
          have HL4 := Lib.hid hL4
          clear hL4
          obtain ⟨A4, C4, rfl⟩ := ho4.form
          have hgc : ∀ (bb o : Nat) (u : Value), (w2.alloc (.cells #[.int .i64 x, .int .i64 y, .bool (t == 1)] 109)).drew.cell? ⟨bb, o, none⟩ = some u → vE.ownBlock ≠ some bb → w4.cell? ⟨bb, o, none⟩ = some u := fun bb o u hc hne =>
            (World.cell?_of_block (a := ⟨bb, o, none⟩) (hg4.block bb (World.block_lt_of_cell? _ _ hc) (fun e => hne e.symm))).trans hc
          have hneq : vE.ownBlock ≠ some w1.heap.size := O3.out.ne_ (HI.out.2.1.below HBD.out) (by decide)
          have hneB : vE.ownBlock ≠ some B := fun e => by have := HI.out.2.2.1.own_lt e; simp at hBB; omega
          have hS4 := Lib.hid (And.intro (hgc _ _ _ hS2.out.1 hneq) (And.intro (hgc _ _ _ hS2.out.2.1 hneB) (And.intro (hgc _ _ _ hS2.out.2.2.1 hneB) (hgc _ _ _ hS2.out.2.2.2 hneB))))
          clear hgc hneq hneB
          refine hK _ _ ⟨fun _ _ => hS4.out, ?_⟩; clear hK K
          obtain ⟨iT, iQ, iE, iG, iR, iB⟩ := HI.out
          obtain ⟨xT, xo2, xn, xe⟩ := HX.out
          have hb40 : Below w.heap.size w w4 := HB3.out.grown hg4 HB3.out.size (fun b e => O3.out.own_ge e)
          have Q3 := iQ.below HBD.out
          have Q4 := Q3.grown hg4 (fun e => O3.out.ne_ Q3 (by decide) e.symm)
          have G3 := iG.below HBD.out
          have G4 := Lib.hid (G3.grown hg4 (fun e => O3.out.ne_ G3 (by decide) e.symm))
          have R3 := iR.below HBD.out
          have R4 := Lib.hid (R3.grown hg4 (fun e => O3.out.ne_ R3 (by decide) e.symm))
          have hbD := ((Below.refl w2.heap.size w2).alloc (Nat.le_refl _) (.cells #[.int .i64 x, .int .i64 y, .bool (t == 1)] 109)).drew
          have V4 := ((xo2.below hbD).keptP plU hg4 (iE.own_new (xo2.mono_base (by simp))))
          have V5 := Lib.hid (And.intro V4 (V4.ne_ Q4 (by decide)))
          have O4 := Lib.hid (And.intro ho4 (ho4.ne_ Q4 (by decide)))
          have HQ4 := Lib.hid Q4
          obtain ⟨q1, q2, q3⟩ := Q4.all
          have HN := Lib.hid (And.intro xT xe)
          have HB4 := Lib.hid (And.intro hb40 iB)
          clear iT iQ iE iG iR iB xT xo2 xn xe hb40 Q3 Q4 G3 R3 hbD V4 ho4 hg4 hat4 HX
          apply rp_pure 15 rfl (by kernel_rfl) (fun _ _ _ h => h) rfl
          · (intro W; go_simp; try rfl)
          · (go_simp; try rfl)
          refine rp_free 16 (by kernel_rfl) (by kernel_rfl) rfl (fun K hK => ?_)
          go_simp
          refine hK _ _ ?_; clear hK K
          clear q1 q2 q3
          refine rp_done (by kernel_rfl) ?_
          go_wp2
          go_roundg (n + 1 - (k + 1))
          case measure => omega
          case rel =>
            obtain ⟨iT, iQ, iE, iG, iR, iB⟩ := HI.out
            obtain ⟨xT, xe⟩ := HN.out
            have hq := HQ.out
            simp [tot] at xT
            refine ⟨k + 1, by go_num, by omega, by omega, Lib.hid ⟨?_, ⟨_, HQ4.out.set_ 0 _, ?_⟩, ?_, G4.out.far (by simp; omega) _, R4.out.far (by simp; omega) _, HB4.out.1.setCell (by simp; omega) _⟩⟩
            · have := HRe.out.2; omega
            · rw [entsOf_step, ← HRe.out.1, xe, ← HL4.out]
              exact O4.out.1.setP plE (p := ⟨w1.heap.size, 0, none⟩) O4.out.2 _
            · have := (V5.out.1.setP plU (p := ⟨w1.heap.size, 0, none⟩) V5.out.2 (.slice A4 L4.length C4)).sl (M := noM) (fun _ _ h => h)
              rw [HRe.out.1, List.drop_drop, show tot [4, 4, 1] = 9 from rfl, show 9 * k + 9 = 9 * (k + 1) by omega] at this
              exact this
        · have hno := Lib.hid (readT_short (g := ⟨z, n, sp, sl, an⟩) (b := b) (by
            have h1 := HRe.out.2
            have h2 := hfew
            simp [tot] at h2
            have : ((n : Int) + 1).toNat = n + 1 := by omega
            simp only [this]
            omega))
          have hR5 := iR.below HB2.out
          obtain ⟨r1, r2, r3⟩ := hR5.all
          have hx := (hR5.set_ 0 (.slice none 0 0)).cell 0
          have HB5 := Lib.hid (iB.trans (HB2.out.mono iB.size))
          clear iT iQ iE iG iR iB hR5 hB2 hfew
          go_wp2
          refine bodyPost_ret (v := .tuple #[.agg #[.slice none 0 0], .int .i64 4]) (by simp [results, Tryz.results111, go_sem, hx]) rfl ?_
          exact ⟨.inr (.inl ⟨hE.out, hno.out, rfl⟩), HB5.out.setCell (p := ⟨w.heap.size + 1, 0, none⟩) (Nat.le_succ _) _⟩
      · obtain rfl : k = n + 1 := by omega
        have hnn : (((n + 1 : Nat) : Int)) = (n : Int) + 1 := by omega
        have hRT : Hid (readT ⟨z, n, sp, sl, an⟩ b = if okT ⟨z, n, sp, sl, an⟩ (entsOf (n + 1) b) = true ∧ tblB (entsOf (n + 1) b) = b then some (entsOf (n + 1) b) else none) := Lib.hid (by
          have : ((n : Int) + 1).toNat = n + 1 := by omega
          simp only [readT, this])
        have hlen := entsOf_len (n + 1) b
        obtain ⟨L, hL⟩ : ∃ L, L = entsOf (n + 1) b := ⟨_, rfl⟩
        rw [← hL] at hRT hoE hlen
        have htb := Lib.hid (tbytes_any ⟨z, n, sp, sl, an⟩ vE L w0 noM (hoE.sl (fun _ _ h => h)) (by omega))
        unfold gv at htb
        simp only at htb
        obtain ⟨q1, q2, q3⟩ := hQ.all
        obtain ⟨g1, g2, g3⟩ := hG.all
        have HI := Lib.hid (And.intro hQ (And.intro hoE (And.intro hR hB)))
        clear hI hL hlen hT hQ hoE hs7 hG hR hB hnn
        go_wp2_with fail
        ((with_reducible refine htb.out.mono ?_); rintro e w2 ⟨hU, hB2⟩)
        obtain ⟨iQ, iE, iR, iB⟩ := HI.out
        have Q2 := iQ.below hB2
        have R2 := iR.below hB2
        have E2 := iE.below hB2
        have B2 := Lib.hid (iB.trans (hB2.mono iB.size))
        obtain ⟨r1, r2, r3⟩ := R2.all
        rcases hU with ⟨hok, vb, rfl, hob⟩ | ⟨hno, rfl⟩
        · have heq := Lib.hid (equal_any vb (.slice a b.length c) (tblB L) b w2 noM noM (hob.sl (fun _ _ h => h)) (H.out.mono (Keep.below B2.out)))
          obtain ⟨ab, cb, rfl⟩ := hob.form
          cases hd : decide (tblB L = b) with
          | false =>
            have hF := Lib.hid (show readT ⟨z, n, sp, sl, an⟩ b = none by rw [hRT.out, if_neg]; rintro ⟨-, h⟩; simp [h] at hd)
            rw [hd] at heq
            clear hd q1 q2 q3 g1 g2 g3 iQ iE iR iB Q2 E2 hB2 hok hob
            have hx := (R2.set_ 0 (.slice none 0 0)).cell 0
            clear R2
            go_wp2_with (go_at_call 100; go_must (with_reducible refine heq.out.mono ?_); rintro e w3 ⟨rfl, rfl⟩)
            refine bodyPost_ret (v := .tuple #[.agg #[.slice none 0 0], .int .i64 4]) (by simp [results, Tryz.results111, go_sem, hx]) rfl ?_
            exact ⟨.inr (.inl ⟨hE.out, hF.out, rfl⟩), B2.out.setCell (p := ⟨w.heap.size + 1, 0, none⟩) (Nat.le_succ _) _⟩
          | true =>
            have hF := Lib.hid (show readT ⟨z, n, sp, sl, an⟩ b = some L by rw [hRT.out, if_pos]; exact ⟨hok, by simpa using hd⟩)
            rw [hd] at heq
            have hne := Lib.hid (E2.ne_ R2 (by decide))
            have HE2 := Lib.hid E2
            obtain ⟨p1, p2, p3⟩ := Q2.all
            have hx := (R2.set_ 0 vE).cell 0
            obtain ⟨aE, cE, rfl⟩ := E2.form
            clear hd q1 q2 q3 g1 g2 g3 iQ iE iR iB Q2 E2 hB2 hok hob R2
            go_wp2_with (go_at_call 100; go_must (with_reducible refine heq.out.mono ?_); rintro e w3 ⟨rfl, rfl⟩)
            refine bodyPost_ret (v := .tuple #[.agg #[.slice aE L.length cE], .int .i64 0]) (by simp [results, Tryz.results111, go_sem, hx]) rfl ?_
            exact ⟨.inr (.inr ⟨hE.out, _, L, hF.out, rfl, HE2.out.setP plE (p := ⟨w.heap.size + 1, 0, none⟩) hne.out _⟩), B2.out.setCell (p := ⟨w.heap.size + 1, 0, none⟩) (Nat.le_succ _) _⟩
        · have hF := Lib.hid (show readT ⟨z, n, sp, sl, an⟩ b = none by rw [hRT.out, if_neg]; rintro ⟨h, -⟩; rw [hno] at h; cases h)
          have hx := (R2.set_ 0 (.slice none 0 0)).cell 0
          clear q1 q2 q3 g1 g2 g3 iQ iE iR iB Q2 E2 hB2 hno R2
          go_wp2
          refine bodyPost_ret (v := .tuple #[.agg #[.slice none 0 0], .int .i64 4]) (by simp [results, Tryz.results111, go_sem, hx]) rfl ?_
          exact ⟨.inr (.inl ⟨hE.out, hF.out, rfl⟩), B2.out.setCell (p := ⟨w.heap.size + 1, 0, none⟩) (Nat.le_succ _) _⟩
end Go.Proofs.YteecmgonbdbhdaaGreatDoor
end

/-
Package rec: whether an image is none, is right.
-/
section
namespace Go.Proofs.YteecmgonbdbhdaaGreatDoor
open Go.RowKit
attribute [local go_sem ↓] Go.wp_at_zero Go.wp_at_succ

def noneB (x : Img) : Bool := x.zone == 0 && (x.what == 0 && (x.bytes.length : Int) == 0)
theorem none_any (x : Img) (a : Option Addr) (c : Nat) (w : World) :
    Calls Tryz.prog 101 #[.agg #[.int .i64 x.zone, .int .i64 x.what, .slice a x.bytes.length c]] w fun e w' => e = .returned (.bool (noneB x)) ∧ Below w.heap.size w w' := by
  have hB := Lib.hid (fun o => (Below.refl w.heap.size w).alloc (Nat.le_refl _) o)
  have hE := Lib.hid (show noneB x = (x.zone == 0 && (x.what == 0 && (x.bytes.length : Int) == 0)) from rfl)
  go_enter Tryz.func101, Tryz.ntmps101
  go_wp2
  all_goals
    go_ret
    refine ⟨?_, hB.out _⟩
    rw [hE.out]
    show Ending.returned (.bool _) = _
    simp [*]
/-- Whether an image is right. -/
def imgOk (g : Geo) (x : Img) : Bool := okG g && (inB x.zone 0 (g.z - 1) && (if x.what = 255 then (readT g x.bytes).isSome else inB x.what (-1) (g.d - 1) && decide (x.bytes.length = 8)))

set_option maxHeartbeats 4000000 in
theorem image_any (g : Geo) (x : Img) (v : Value) (w : World) (Mi : Ms) (h : SlR w Mi v x.bytes) (hl : x.bytes.length ≤ 100000) :
    Calls Tryz.prog 103 #[gv g, .agg #[.int .i64 x.zone, .int .i64 x.what, v]] w fun e w' => e = .returned (errV (imgOk g x)) ∧ Below w.heap.size w w' := by
  obtain ⟨zone, what, bytes⟩ := x
  obtain ⟨z, d, sp, sl, an⟩ := g
  simp only at h hl ⊢
  obtain ⟨a, c, rfl⟩ := h.form
  have hb1 := (Below.refl w.heap.size w).alloc (Nat.le_refl _) (.cells #[.int .i64 z, .int .i64 d, .int .i64 sp, .int .i64 sl, .int .i64 an] 23)
  have hb2 := hb1.alloc (by simp) (.cells #[.int .i64 zone, .int .i64 what, .slice a bytes.length c] 74)
  have hG := (Blk.new w 23 #[.int .i64 z, .int .i64 d, .int .i64 sp, .int .i64 sl, .int .i64 an]).alloc (.cells #[.int .i64 zone, .int .i64 what, .slice a bytes.length c] 74)
  have hT := Blk.new (w.alloc (.cells #[.int .i64 z, .int .i64 d, .int .i64 sp, .int .i64 sl, .int .i64 an] 23)) 74 #[.int .i64 zone, .int .i64 what, .slice a bytes.length c]
  simp only [World.size_alloc] at hT
  have HB := Lib.hid hb2
  have HG := Lib.hid hG
  have HT := Lib.hid hT
  have hgc := Lib.hid (gcheck_any ⟨z, d, sp, sl, an⟩ ((w.alloc (.cells #[.int .i64 z, .int .i64 d, .int .i64 sp, .int .i64 sl, .int .i64 an] 23)).alloc (.cells #[.int .i64 zone, .int .i64 what, .slice a bytes.length c] 74)))
  unfold gv at hgc ⊢
  simp only at hgc ⊢
  have H := Lib.hid h.bare
  clear hb1 hb2 hG hT h
  cases hok : okG ⟨z, d, sp, sl, an⟩ with
  | false =>
    have hE := Lib.hid (show imgOk ⟨z, d, sp, sl, an⟩ ⟨zone, what, bytes⟩ = false by simp [imgOk, hok])
    rw [hok] at hgc
    clear hok
    unfold errV at hgc
    go_enter Tryz.func103, Tryz.ntmps103
    go_wp2_with (go_at_call 39; go_must (with_reducible refine hgc.out.mono ?_); rintro e w1 ⟨rfl, hB1⟩)
    go_ret
    rw [hE.out]
    exact ⟨rfl, HB.out.trans (hB1.mono HB.out.size)⟩
  | true =>
    have hE := Lib.hid (show imgOk ⟨z, d, sp, sl, an⟩ ⟨zone, what, bytes⟩ = (inB zone 0 (z - 1) && (if what = 255 then (readT ⟨z, d, sp, sl, an⟩ bytes).isSome else inB what (-1) (d - 1) && decide (bytes.length = 8))) by simp [imgOk, hok])
    rw [hok] at hgc
    unfold errV at hgc
    obtain ⟨hz, hd, -⟩ := okG_iff.1 hok
    have hz1 : (1 : Int) ≤ z := hz.1
    have hz2 : z ≤ 4 := hz.2
    have hd1 : (1 : Int) ≤ d := hd.1
    have hd2 : d ≤ 4 := hd.2
    have hwz : IntKind.i64.wrap (z - 1) = z - 1 := by rw [IntKind.wrap_i64]; omega
    have hwd : IntKind.i64.wrap (d - 1) = d - 1 := by rw [IntKind.wrap_i64]; omega
    have hin := fun w => rin_any zone 0 (z - 1) w
    have hin2 := fun w => rin_any what (-1) (d - 1) w
    have HO := Lib.hid hok
    clear hz hd hok
    cases hzo : inB zone 0 (z - 1) with
    | false =>
      rw [hzo] at hE
      rw [hzo] at hin
      clear hzo
      go_enter Tryz.func103, Tryz.ntmps103
      go_wp2_with fail
      ((with_reducible refine hgc.out.mono ?_); rintro e w1 ⟨rfl, hB1⟩)
      obtain ⟨g1, g2, g3⟩ := (HG.out.below hB1).all
      obtain ⟨t1, t2, t3⟩ := (HT.out.below hB1).all
      go_wp2_with (go_at_call 102; go_must (with_reducible refine (hin _).mono ?_); rintro e w1 ⟨rfl, rfl⟩)
      go_ret
      rw [hE.out]
      exact ⟨rfl, HB.out.trans (hB1.mono HB.out.size)⟩
    | true =>
      rw [hzo] at hE
      rw [hzo] at hin
      clear hzo
      by_cases hw : what = 255
      · subst hw
        rw [if_pos rfl] at hE
        go_enter Tryz.func103, Tryz.ntmps103
        go_wp2_with fail
        ((with_reducible refine hgc.out.mono ?_); rintro e w1 ⟨rfl, hB1⟩)
        obtain ⟨g1, g2, g3⟩ := (HG.out.below hB1).all
        obtain ⟨t1, t2, t3⟩ := (HT.out.below hB1).all
        have HB1 := Lib.hid (HB.out.trans (hB1.mono HB.out.size))
        have htr := Lib.hid (tread_any ⟨z, d, sp, sl, an⟩ (.slice a bytes.length c) bytes w1 noM (H.out.mono (Keep.below HB1.out)) hl)
        unfold gv at htr
        simp only at htr
        clear hB1
        go_wp2_with fail
        ((with_reducible refine (hin _).mono ?_); rintro e w1 ⟨rfl, rfl⟩)
        go_wp2_with fail
        ((with_reducible refine htr.out.mono ?_); rintro e w2 ⟨hU, hB2⟩)
        have HB2 := Lib.hid (HB1.out.trans (hB2.mono HB1.out.size))
        clear hB2
        rcases hU with ⟨hno, -⟩ | ⟨-, hno, rfl⟩ | ⟨-, vt, lt, hyes, rfl, ho⟩
        · rw [HO.out] at hno; cases hno
        · have hF := Lib.hid hno
          clear hno
          go_wp2
          go_ret
          rw [hE.out, hF.out]
          exact ⟨rfl, HB2.out.trans (((Below.refl w2.heap.size w2).alloc (Nat.le_refl _) _).mono HB2.out.size)⟩
        · have hF := Lib.hid hyes
          obtain ⟨at_, ct, rfl⟩ := ho.form
          clear hyes ho
          go_wp2
          go_ret
          rw [hE.out, hF.out]
          exact ⟨rfl, HB2.out.trans (((Below.refl w2.heap.size w2).alloc (Nat.le_refl _) _).mono HB2.out.size)⟩
      · rw [if_neg hw] at hE
        have hw' : (what == 255) = false := by simpa using hw
        clear hw
        cases hwo : inB what (-1) (d - 1) with
        | false =>
          rw [hwo] at hE
          rw [hwo] at hin2
          clear hwo
          go_enter Tryz.func103, Tryz.ntmps103
          go_wp2_with fail
          ((with_reducible refine hgc.out.mono ?_); rintro e w1 ⟨rfl, hB1⟩)
          obtain ⟨g1, g2, g3⟩ := (HG.out.below hB1).all
          obtain ⟨t1, t2, t3⟩ := (HT.out.below hB1).all
          go_wp2_with (go_at_call 102; go_must (first | (with_reducible refine (hin _).mono ?_) | (with_reducible refine (hin2 _).mono ?_)); rintro e w1 ⟨rfl, rfl⟩)
          go_ret
          rw [hE.out]
          exact ⟨rfl, HB.out.trans (hB1.mono HB.out.size)⟩
        | true =>
          rw [hwo] at hE
          rw [hwo] at hin2
          clear hwo
          go_enter Tryz.func103, Tryz.ntmps103
          go_wp2_with fail
          ((with_reducible refine hgc.out.mono ?_); rintro e w1 ⟨rfl, hB1⟩)
          obtain ⟨g1, g2, g3⟩ := (HG.out.below hB1).all
          obtain ⟨t1, t2, t3⟩ := (HT.out.below hB1).all
          by_cases h8 : bytes.length = 8
          · have h8' : ((bytes.length : Int) != 8) = false := by simp; omega
            have hF := Lib.hid (show decide (bytes.length = 8) = true by simpa using h8)
            clear h8
            go_wp2_with (go_at_call 102; go_must (first | (with_reducible refine (hin _).mono ?_) | (with_reducible refine (hin2 _).mono ?_)); rintro e w1 ⟨rfl, rfl⟩)
            go_ret
            rw [hE.out, hF.out]
            exact ⟨rfl, HB.out.trans (hB1.mono HB.out.size)⟩
          · have h8' : ((bytes.length : Int) != 8) = true := by simp; omega
            have hF := Lib.hid (show decide (bytes.length = 8) = false by simpa using h8)
            clear h8
            go_wp2_with (go_at_call 102; go_must (first | (with_reducible refine (hin _).mono ?_) | (with_reducible refine (hin2 _).mono ?_)); rintro e w1 ⟨rfl, rfl⟩)
            go_ret
            rw [hE.out, hF.out]
            exact ⟨rfl, HB.out.trans (hB1.mono HB.out.size)⟩
end Go.Proofs.YteecmgonbdbhdaaGreatDoor
end

/-
Package rec: what a record has behind its numbers.
-/
section
namespace Go.Proofs.YteecmgonbdbhdaaGreatDoor
open Go.RowKit
attribute [local go_sem ↓] Go.wp_at_zero Go.wp_at_succ

def numsB (r : Rc) : Bool := inB r.seq 0 4294967295 && (inB r.epoch 0 4294967295 && inB r.of_ 2 30)
/-- Is a record right (of a right geometry)? -/
def behOk (g : Geo) (r : Rc) : Bool :=
  if r.kind = 0 then r.seq == 0 && (r.epoch == 0 && (r.at_ == 0 && (r.of_ == 0 && noneB r.img)))
  else if r.kind = 1 then numsB r && (inB r.at_ 0 (r.of_ - 2) && imgOk g r.img)
  else if r.kind = 2 then numsB r && (r.at_ == r.of_ - 1 && noneB r.img)
  else false
def behV (r : Rc) (v : Value) : Value :=
  if r.kind = 0 then .nilIface
  else if r.kind = 1 then .iface 156 (.agg #[.int .i64 r.img.zone, .int .i64 r.img.what, v])
  else if r.kind = 2 then .iface 153 (.agg #[])
  else .nilIface
def rv (r : Rc) (v : Value) : Value := .agg #[.int .i64 r.kind, .int .i64 r.seq, .int .i64 r.epoch, .int .i64 r.at_, .int .i64 r.of_, .int .i64 r.img.zone, .int .i64 r.img.what, v]

set_option maxHeartbeats 8000000 in
theorem behind_any (g : Geo) (r : Rc) (v : Value) (w : World) (Mi : Ms) (h : SlR w Mi v r.img.bytes) (hl : r.img.bytes.length ≤ 100000) :
    Calls Tryz.prog 88 #[gv g, rv r v] w fun e w' => e = .returned (.tuple #[behV r v, .bool (behOk g r)]) ∧ Below w.heap.size w w' := by
  obtain ⟨kind, seq, epoch, at_, of_, ⟨zone, what, bytes⟩⟩ := r
  obtain ⟨z, d, sp, sl, an⟩ := g
  simp only at h hl
  obtain ⟨a, c, rfl⟩ := h.form
  unfold rv gv
  simp only
  have hb1 := (Below.refl w.heap.size w).alloc (Nat.le_refl _) (.cells #[.int .i64 z, .int .i64 d, .int .i64 sp, .int .i64 sl, .int .i64 an] 23)
  have hb2 := fun o => hb1.alloc (by simp) o
  have HB := Lib.hid hb2
  have hnone := fun w' => none_any ⟨zone, what, bytes⟩ a c w'
  by_cases hk0 : kind = 0
  · subst hk0
    have hV : Hid (behV ⟨0, seq, epoch, at_, of_, ⟨zone, what, bytes⟩⟩ (.slice a bytes.length c) = .nilIface) := Lib.hid (by simp [behV])
    have hE : Hid (behOk ⟨z, d, sp, sl, an⟩ ⟨0, seq, epoch, at_, of_, ⟨zone, what, bytes⟩⟩ = (seq == 0 && (epoch == 0 && (at_ == 0 && (of_ == 0 && noneB ⟨zone, what, bytes⟩))))) := Lib.hid (by simp [behOk])
    rw [hV.out, hE.out]
    cases hs : seq == 0 with
    | false =>
      go_enter Tryz.func88, Tryz.ntmps88
      go_wp2
      go_ret2
      exact ⟨rfl, HB.out _⟩
    | true =>
      obtain rfl : seq = 0 := by simpa using hs
      cases hp : epoch == 0 with
      | false =>
        go_enter Tryz.func88, Tryz.ntmps88
        go_wp2
        go_ret2
        exact ⟨rfl, HB.out _⟩
      | true =>
        obtain rfl : epoch = 0 := by simpa using hp
        cases ha : at_ == 0 with
        | false =>
          go_enter Tryz.func88, Tryz.ntmps88
          go_wp2
          go_ret2
          exact ⟨rfl, HB.out _⟩
        | true =>
          obtain rfl : at_ = 0 := by simpa using ha
          cases ho : of_ == 0 with
          | false =>
            go_enter Tryz.func88, Tryz.ntmps88
            go_wp2
            go_ret2
            exact ⟨rfl, HB.out _⟩
          | true =>
            obtain rfl : of_ = 0 := by simpa using ho
            clear hs hp ha ho
            simp only at hnone
            obtain ⟨bn, hbn⟩ : ∃ bn, bn = noneB ⟨zone, what, bytes⟩ := ⟨_, rfl⟩
            rw [← hbn] at hE hnone ⊢
            clear hbn hE hV
            go_enter Tryz.func88, Tryz.ntmps88
            go_wp2_with (go_at_call 101; go_must (with_reducible refine (hnone _).mono ?_); rintro e w1 ⟨rfl, hB1⟩)
            go_ret2
            exact ⟨rfl, (HB.out _).trans (hB1.mono (HB.out _).size)⟩
  · by_cases hk1 : kind = 1
    · subst hk1
      have hV : Hid (behV ⟨1, seq, epoch, at_, of_, ⟨zone, what, bytes⟩⟩ (.slice a bytes.length c) = .iface 156 (.agg #[.int .i64 zone, .int .i64 what, .slice a bytes.length c])) := Lib.hid (by simp [behV])
      have hE : Hid (behOk ⟨z, d, sp, sl, an⟩ ⟨1, seq, epoch, at_, of_, ⟨zone, what, bytes⟩⟩ = ((inB seq 0 4294967295 && (inB epoch 0 4294967295 && inB of_ 2 30)) && (inB at_ 0 (of_ - 2) && imgOk ⟨z, d, sp, sl, an⟩ ⟨zone, what, bytes⟩))) := Lib.hid (by simp [behOk, numsB])
      rw [hV.out, hE.out]
      have hin1 := fun w => rin_any seq 0 4294967295 w
      have hin2 := fun w => rin_any epoch 0 4294967295 w
      have hin3 := fun w => rin_any of_ 2 30 w
      cases hs : inB seq 0 4294967295 with
      | false =>
        rw [hs] at hin1
        clear hV hE hs
        go_enter Tryz.func88, Tryz.ntmps88
        go_wp2_with (go_at_call 102; go_must (first | (with_reducible refine (hin1 _).mono ?_)); rintro e w1 ⟨rfl, rfl⟩)
        go_ret2
        exact ⟨rfl, HB.out _⟩
      | true =>
        cases hp : inB epoch 0 4294967295 with
        | false =>
          rw [hs] at hin1
          rw [hp] at hin2
          clear hV hE hs hp
          go_enter Tryz.func88, Tryz.ntmps88
          go_wp2_with (go_at_call 102; go_must (first | (with_reducible refine (hin1 _).mono ?_) | (with_reducible refine (hin2 _).mono ?_)); rintro e w1 ⟨rfl, rfl⟩)
          go_ret2
          exact ⟨rfl, HB.out _⟩
        | true =>
          cases ho : inB of_ 2 30 with
          | false =>
            rw [hs] at hin1
            rw [hp] at hin2
            rw [ho] at hin3
            clear hV hE hs hp ho
            go_enter Tryz.func88, Tryz.ntmps88
            go_wp2_with (go_at_call 102; go_must (first | (with_reducible refine (hin1 _).mono ?_) | (with_reducible refine (hin2 _).mono ?_) | (with_reducible refine (hin3 _).mono ?_)); rintro e w1 ⟨rfl, rfl⟩)
            go_ret2
            exact ⟨rfl, HB.out _⟩
          | true =>
            obtain ⟨ho1, ho2⟩ := inB_iff.1 ho
            rw [hs] at hin1
            rw [hp] at hin2
            rw [ho] at hin3
            clear hV hE hs hp ho
            simp only [Bool.true_and]
            have hwo : IntKind.i64.wrap (of_ - 2) = of_ - 2 := by rw [IntKind.wrap_i64]; omega
            have hin4 := fun w => rin_any at_ 0 (of_ - 2) w
            cases ha : inB at_ 0 (of_ - 2) with
            | false =>
              rw [ha] at hin4
              clear ha
              go_enter Tryz.func88, Tryz.ntmps88
              go_wp2_with (go_at_call 102; go_must (first | (with_reducible refine (hin1 _).mono ?_) | (with_reducible refine (hin2 _).mono ?_) | (with_reducible refine (hin3 _).mono ?_) | (with_reducible refine (hin4 _).mono ?_)); rintro e w1 ⟨rfl, rfl⟩)
              go_ret2
              exact ⟨rfl, HB.out _⟩
            | true =>
              rw [ha] at hin4
              clear ha
              have hG := (Blk.new w 23 #[.int .i64 z, .int .i64 d, .int .i64 sp, .int .i64 sl, .int .i64 an]).alloc (.cells #[.int .i64 1, .int .i64 seq, .int .i64 epoch, .int .i64 at_, .int .i64 of_, .int .i64 zone, .int .i64 what, .slice a bytes.length c] 76)
              have hT := Blk.new (w.alloc (.cells #[.int .i64 z, .int .i64 d, .int .i64 sp, .int .i64 sl, .int .i64 an] 23)) 76 #[.int .i64 1, .int .i64 seq, .int .i64 epoch, .int .i64 at_, .int .i64 of_, .int .i64 zone, .int .i64 what, .slice a bytes.length c]
              simp only [World.size_alloc] at hT
              have him := Lib.hid (image_any ⟨z, d, sp, sl, an⟩ ⟨zone, what, bytes⟩ (.slice a bytes.length c) _ Mi (h.mono (Keep.below (HB.out (.cells #[.int .i64 1, .int .i64 seq, .int .i64 epoch, .int .i64 at_, .int .i64 of_, .int .i64 zone, .int .i64 what, .slice a bytes.length c] 76)))) hl)
              unfold gv errV at him
              simp only at him
              have HT := Lib.hid hT
              clear hG hT
              cases hb : imgOk ⟨z, d, sp, sl, an⟩ ⟨zone, what, bytes⟩ with
              | false =>
                rw [hb] at him
                clear hb
                go_enter Tryz.func88, Tryz.ntmps88
                go_wp2_with (go_at_call 102; go_must (first | (with_reducible refine (hin1 _).mono ?_) | (with_reducible refine (hin2 _).mono ?_) | (with_reducible refine (hin3 _).mono ?_) | (with_reducible refine (hin4 _).mono ?_)); rintro e w1 ⟨rfl, rfl⟩)
                ((with_reducible refine him.out.mono ?_); rintro e w1 ⟨rfl, hB1⟩)
                obtain ⟨t1, t2, t3⟩ := (HT.out.below hB1).all
                go_wp2
                go_ret2
                exact ⟨rfl, (HB.out _).trans (hB1.mono (HB.out _).size)⟩
              | true =>
                rw [hb] at him
                clear hb
                go_enter Tryz.func88, Tryz.ntmps88
                go_wp2_with (go_at_call 102; go_must (first | (with_reducible refine (hin1 _).mono ?_) | (with_reducible refine (hin2 _).mono ?_) | (with_reducible refine (hin3 _).mono ?_) | (with_reducible refine (hin4 _).mono ?_)); rintro e w1 ⟨rfl, rfl⟩)
                ((with_reducible refine him.out.mono ?_); rintro e w1 ⟨rfl, hB1⟩)
                obtain ⟨t1, t2, t3⟩ := (HT.out.below hB1).all
                go_wp2
                go_ret2
                exact ⟨rfl, (HB.out _).trans (hB1.mono (HB.out _).size)⟩
    · by_cases hk2 : kind = 2
      · subst hk2
        have hV : Hid (behV ⟨2, seq, epoch, at_, of_, ⟨zone, what, bytes⟩⟩ (.slice a bytes.length c) = .iface 153 (.agg #[])) := Lib.hid (by simp [behV])
        have hE : Hid (behOk ⟨z, d, sp, sl, an⟩ ⟨2, seq, epoch, at_, of_, ⟨zone, what, bytes⟩⟩ = ((inB seq 0 4294967295 && (inB epoch 0 4294967295 && inB of_ 2 30)) && (at_ == of_ - 1 && noneB ⟨zone, what, bytes⟩))) := Lib.hid (by simp [behOk, numsB])
        rw [hV.out, hE.out]
        have hin1 := fun w => rin_any seq 0 4294967295 w
        have hin2 := fun w => rin_any epoch 0 4294967295 w
        have hin3 := fun w => rin_any of_ 2 30 w
        cases hs : inB seq 0 4294967295 with
        | false =>
          rw [hs] at hin1
          clear hV hE hs
          go_enter Tryz.func88, Tryz.ntmps88
          go_wp2_with (go_at_call 102; go_must (first | (with_reducible refine (hin1 _).mono ?_)); rintro e w1 ⟨rfl, rfl⟩)
          go_ret2
          exact ⟨rfl, HB.out _⟩
        | true =>
          cases hp : inB epoch 0 4294967295 with
          | false =>
            rw [hs] at hin1
            rw [hp] at hin2
            clear hV hE hs hp
            go_enter Tryz.func88, Tryz.ntmps88
            go_wp2_with (go_at_call 102; go_must (first | (with_reducible refine (hin1 _).mono ?_) | (with_reducible refine (hin2 _).mono ?_)); rintro e w1 ⟨rfl, rfl⟩)
            go_ret2
            exact ⟨rfl, HB.out _⟩
          | true =>
            cases ho : inB of_ 2 30 with
            | false =>
              rw [hs] at hin1
              rw [hp] at hin2
              rw [ho] at hin3
              clear hV hE hs hp ho
              go_enter Tryz.func88, Tryz.ntmps88
              go_wp2_with (go_at_call 102; go_must (first | (with_reducible refine (hin1 _).mono ?_) | (with_reducible refine (hin2 _).mono ?_) | (with_reducible refine (hin3 _).mono ?_)); rintro e w1 ⟨rfl, rfl⟩)
              go_ret2
              exact ⟨rfl, HB.out _⟩
            | true =>
              obtain ⟨ho1, ho2⟩ := inB_iff.1 ho
              rw [hs] at hin1
              rw [hp] at hin2
              rw [ho] at hin3
              clear hV hE hs hp ho
              simp only [Bool.true_and]
              have hwo : IntKind.i64.wrap (of_ - 1) = of_ - 1 := by rw [IntKind.wrap_i64]; omega
              cases ha : at_ == of_ - 1 with
              | false =>
                go_enter Tryz.func88, Tryz.ntmps88
                go_wp2_with (go_at_call 102; go_must (first | (with_reducible refine (hin1 _).mono ?_) | (with_reducible refine (hin2 _).mono ?_) | (with_reducible refine (hin3 _).mono ?_)); rintro e w1 ⟨rfl, rfl⟩)
                go_ret2
                exact ⟨rfl, HB.out _⟩
              | true =>
                obtain rfl : at_ = of_ - 1 := by simpa using ha
                clear ha
                simp only at hnone
                obtain ⟨bn, hbn⟩ : ∃ bn, bn = noneB ⟨zone, what, bytes⟩ := ⟨_, rfl⟩
                rw [← hbn] at hnone ⊢
                clear hbn
                go_enter Tryz.func88, Tryz.ntmps88
                go_wp2_with (go_at_call 102; go_must (first | (with_reducible refine (hin1 _).mono ?_) | (with_reducible refine (hin2 _).mono ?_) | (with_reducible refine (hin3 _).mono ?_)); rintro e w1 ⟨rfl, rfl⟩)
                ((with_reducible refine (hnone _).mono ?_); rintro e w1 ⟨rfl, hB1⟩)
                go_wp2
                go_ret2
                exact ⟨rfl, (HB.out _).trans (hB1.mono (HB.out _).size)⟩
      · have hV : Hid (behV ⟨kind, seq, epoch, at_, of_, ⟨zone, what, bytes⟩⟩ (.slice a bytes.length c) = .nilIface) := Lib.hid (by simp [behV, hk0, hk1, hk2])
        have hE : Hid (behOk ⟨z, d, sp, sl, an⟩ ⟨kind, seq, epoch, at_, of_, ⟨zone, what, bytes⟩⟩ = false) := Lib.hid (by simp [behOk, hk0, hk1, hk2])
        rw [hV.out, hE.out]
        have k0 : (kind == 0) = false := by simpa using hk0
        have k1 : (kind == 1) = false := by simpa using hk1
        have k2 : (kind == 2) = false := by simpa using hk2
        clear hk0 hk1 hk2 hV hE
        have hin1 := fun w => rin_any seq 0 4294967295 w
        have hin2 := fun w => rin_any epoch 0 4294967295 w
        have hin3 := fun w => rin_any of_ 2 30 w
        go_enter Tryz.func88, Tryz.ntmps88
        go_wp2_with (go_at_call 102; go_must (first | (with_reducible refine (hin1 _).mono ?_) | (with_reducible refine (hin2 _).mono ?_) | (with_reducible refine (hin3 _).mono ?_)); rintro e w1 ⟨rfl, rfl⟩)
        all_goals
          go_ret2
          exact ⟨rfl, HB.out _⟩
end Go.Proofs.YteecmgonbdbhdaaGreatDoor
end

/-
Package rec: a record's bytes as plain data; rec.Check; the sizes of a record's numbers.
-/
section
namespace Go.Proofs.YteecmgonbdbhdaaGreatDoor
open Go.RowKit
attribute [local go_sem ↓] Go.wp_at_zero Go.wp_at_succ

def okR (g : Geo) (r : Rc) : Bool := okG g && behOk g r
def whatB (n : Int) : Int := if n = -1 then 254 else n
abbrev szR : List Int := [1, 4, 4, 1, 1]
def numsOf (r : Rc) : List Int := [r.kind, r.seq, r.epoch, r.at_, r.of_]
def imgB (x : Img) : List UInt8 := rowB [x.zone, whatB x.what] [1, 1] ++ (UInt8.ofNat x.bytes.length :: x.bytes)
def recB (r : Rc) : List UInt8 := rowB (numsOf r) szR ++ (if r.kind = 1 then imgB r.img else [])

theorem imgOk_parts {g : Geo} {x : Img} (h : imgOk g x = true) : okG g = true ∧ (0 ≤ x.zone ∧ x.zone ≤ g.z - 1) ∧ ((x.what = 255 ∧ ∃ l, readT g x.bytes = some l) ∨ (x.what ≠ 255 ∧ (-1 ≤ x.what ∧ x.what ≤ g.d - 1) ∧ x.bytes.length = 8)) := by
  simp only [imgOk, Bool.and_eq_true] at h
  obtain ⟨h1, h2, h3⟩ := h
  refine ⟨h1, inB_iff.1 h2, ?_⟩
  by_cases hw : x.what = 255
  · rw [if_pos hw] at h3
    exact .inl ⟨hw, Option.isSome_iff_exists.1 h3⟩
  · rw [if_neg hw] at h3
    simp only [Bool.and_eq_true, decide_eq_true_eq] at h3
    exact .inr ⟨hw, inB_iff.1 h3.1, h3.2⟩
theorem readT_len {g : Geo} {b : List UInt8} {l : List Ent} (h : readT g b = some l) : b.length = 9 * (g.d + 1).toNat := by
  unfold readT at h
  split at h
  · rename_i h2
    have := congrArg List.length h2.2
    rw [tblB_len, entsOf_len] at this
    exact this.symm
  · cases h
theorem img_short {g : Geo} {x : Img} (h : imgOk g x = true) : x.bytes.length ≤ 45 := by
  obtain ⟨h1, -, h3⟩ := imgOk_parts h
  obtain ⟨-, hd, -⟩ := okG_iff.1 h1
  rcases h3 with ⟨-, l, hl⟩ | ⟨-, -, h8⟩
  · have := readT_len hl
    omega
  · omega
theorem img_fits {g : Geo} {x : Img} (h : imgOk g x = true) : ∀ k (_ : k < [x.zone, whatB x.what].length) (b : k < [(1 : Int), 1].length), szOk [(1 : Int), 1][k] ∧ 0 ≤ [x.zone, whatB x.what][k] ∧ [x.zone, whatB x.what][k] < limS [(1 : Int), 1][k] := by
  obtain ⟨h1, h2, h3⟩ := imgOk_parts h
  obtain ⟨hz, hd, -⟩ := okG_iff.1 h1
  intro k a _
  match k, a with
  | 0, _ =>
    refine ⟨.inl rfl, h2.1, ?_⟩
    show x.zone < 256
    omega
  | 1, _ =>
    refine ⟨.inl rfl, ?_, ?_⟩
    · show 0 ≤ whatB x.what
      unfold whatB
      split <;> omega
    · show whatB x.what < 256
      unfold whatB
      split <;> omega
theorem okR_parts {g : Geo} {r : Rc} (h : okR g r = true) : okG g = true ∧
    ((r.kind = 0 ∧ r.seq = 0 ∧ r.epoch = 0 ∧ r.at_ = 0 ∧ r.of_ = 0 ∧ r.img.zone = 0 ∧ r.img.what = 0 ∧ r.img.bytes = []) ∨
     (r.kind = 1 ∧ (0 ≤ r.seq ∧ r.seq ≤ 4294967295) ∧ (0 ≤ r.epoch ∧ r.epoch ≤ 4294967295) ∧ (2 ≤ r.of_ ∧ r.of_ ≤ 30) ∧ (0 ≤ r.at_ ∧ r.at_ ≤ r.of_ - 2) ∧ imgOk g r.img = true) ∨
     (r.kind = 2 ∧ (0 ≤ r.seq ∧ r.seq ≤ 4294967295) ∧ (0 ≤ r.epoch ∧ r.epoch ≤ 4294967295) ∧ (2 ≤ r.of_ ∧ r.of_ ≤ 30) ∧ r.at_ = r.of_ - 1 ∧ r.img.zone = 0 ∧ r.img.what = 0 ∧ r.img.bytes = [])) := by
  simp only [okR, Bool.and_eq_true] at h
  refine ⟨h.1, ?_⟩
  have h2 := h.2
  unfold behOk at h2
  split at h2
  · rename_i hk
    simp [noneB] at h2
    exact .inl ⟨hk, h2.1, h2.2.1, h2.2.2.1, h2.2.2.2.1, h2.2.2.2.2.1, h2.2.2.2.2.2.1, h2.2.2.2.2.2.2⟩
  · split at h2
    · rename_i hk
      simp only [numsB, Bool.and_eq_true, inB_iff] at h2
      exact .inr (.inl ⟨hk, h2.1.1, h2.1.2.1, h2.1.2.2, h2.2.1, h2.2.2⟩)
    · split at h2
      · rename_i hk
        simp only [numsB, noneB, Bool.and_eq_true, inB_iff, beq_iff_eq] at h2
        refine .inr (.inr ⟨hk, h2.1.1, h2.1.2.1, h2.1.2.2, h2.2.1, h2.2.2.1, h2.2.2.2.1, ?_⟩)
        exact List.eq_nil_of_length_eq_zero (by omega)
      · cases h2
theorem rec_fits {g : Geo} {r : Rc} (h : okR g r = true) : ∀ k (_ : k < (numsOf r).length) (b : k < szR.length), szOk szR[k] ∧ 0 ≤ (numsOf r)[k] ∧ (numsOf r)[k] < limS szR[k] := by
  obtain ⟨-, h⟩ := okR_parts h
  intro k a _
  have e1 : limS 1 = 256 := rfl
  have e4 : limS 4 = 4294967296 := rfl
  match k, a with
  | 0, _ => exact ⟨.inl rfl, by show 0 ≤ r.kind; omega, by show r.kind < limS 1; omega⟩
  | 1, _ => exact ⟨.inr (.inr rfl), by show 0 ≤ r.seq; omega, by show r.seq < limS 4; omega⟩
  | 2, _ => exact ⟨.inr (.inr rfl), by show 0 ≤ r.epoch; omega, by show r.epoch < limS 4; omega⟩
  | 3, _ => exact ⟨.inl rfl, by show 0 ≤ r.at_; omega, by show r.at_ < limS 1; omega⟩
  | 4, _ => exact ⟨.inl rfl, by show 0 ≤ r.of_; omega, by show r.of_ < limS 1; omega⟩

theorem sizes_any (w : World) : Calls Tryz.prog 90 #[] w fun e w' => e = .returned (.slice (some ⟨w.heap.size, 0, none⟩) 5 5) ∧ w' = w.alloc (.cells #[.int .i64 1, .int .i64 4, .int .i64 4, .int .i64 1, .int .i64 1] 3) := by
  go_enter Tryz.func90, Tryz.ntmps90
  go_wp2
  go_ret
  exact ⟨rfl, rfl⟩

end Go.Proofs.YteecmgonbdbhdaaGreatDoor
end
