/-
Numbers between two; whether a geometry is right.
-/
import Derived.Test.YtpknhpfbinplgaaRcBase
namespace Go.Proofs.Ytpknhpfbinplgaa
open Go.RowKit
attribute [local go_sem ↓] Go.wp_at_zero Go.wp_at_succ

def inB (n lo hi : Int) : Bool := decide (lo ≤ n) && decide (n ≤ hi)
theorem inB_iff {n lo hi : Int} : inB n lo hi = true ↔ lo ≤ n ∧ n ≤ hi := by simp [inB]
def errV (b : Bool) : Value := .int .i64 (if b then 0 else 1)
def okG (g : Geo) : Bool := inB g.z 1 4 && inB g.d 1 4 && inB g.sp 0 2 && inB g.sl 14 30 && inB g.an 1 3
theorem okG_iff {g : Geo} : okG g = true ↔ (1 ≤ g.z ∧ g.z ≤ 4) ∧ (1 ≤ g.d ∧ g.d ≤ 4) ∧ (0 ≤ g.sp ∧ g.sp ≤ 2) ∧ (14 ≤ g.sl ∧ g.sl ≤ 30) ∧ (1 ≤ g.an ∧ g.an ≤ 3) := by
  simp only [okG, Bool.and_eq_true, inB_iff, and_assoc]

theorem gin_any (n lo hi : Int) (w : World) : Calls Try.prog 59 #[.int .i64 n, .int .i64 lo, .int .i64 hi] w fun e w' => e = .returned (.bool (inB n lo hi)) ∧ w' = w := by
  by_cases h1 : lo ≤ n
  · by_cases h2 : n ≤ hi
    · have hE := Lib.hid (show inB n lo hi = true by simp [inB, h1, h2])
      go_enter Try.func59, Try.ntmps59
      go_wp2
      go_ret
      rw [hE.out]
      exact ⟨rfl, rfl⟩
    · have hE := Lib.hid (show inB n lo hi = false by simp [inB, h2])
      go_enter Try.func59, Try.ntmps59
      go_wp2
      go_ret
      rw [hE.out]
      exact ⟨rfl, rfl⟩
  · have hE := Lib.hid (show inB n lo hi = false by simp [inB, h1])
    go_enter Try.func59, Try.ntmps59
    go_wp2
    go_ret
    rw [hE.out]
    exact ⟨rfl, rfl⟩

theorem rin_any (n lo hi : Int) (w : World) : Calls Try.prog 41 #[.int .i64 n, .int .i64 lo, .int .i64 hi] w fun e w' => e = .returned (.bool (inB n lo hi)) ∧ w' = w := by
  by_cases h1 : lo ≤ n
  · by_cases h2 : n ≤ hi
    · have hE := Lib.hid (show inB n lo hi = true by simp [inB, h1, h2])
      go_enter Try.func41, Try.ntmps41
      go_wp2
      go_ret
      rw [hE.out]
      exact ⟨rfl, rfl⟩
    · have hE := Lib.hid (show inB n lo hi = false by simp [inB, h2])
      go_enter Try.func41, Try.ntmps41
      go_wp2
      go_ret
      rw [hE.out]
      exact ⟨rfl, rfl⟩
  · have hE := Lib.hid (show inB n lo hi = false by simp [inB, h1])
    go_enter Try.func41, Try.ntmps41
    go_wp2
    go_ret
    rw [hE.out]
    exact ⟨rfl, rfl⟩

theorem rf1in_any (n lo hi : Int) (w : World) : Calls Try.prog 43 #[.int .i64 n, .int .i64 lo, .int .i64 hi] w fun e w' => e = .returned (.bool (inB n lo hi)) ∧ w' = w := by
  by_cases h1 : lo ≤ n
  · by_cases h2 : n ≤ hi
    · have hE := Lib.hid (show inB n lo hi = true by simp [inB, h1, h2])
      go_enter Try.func43, Try.ntmps43
      go_wp2
      go_ret
      rw [hE.out]
      exact ⟨rfl, rfl⟩
    · have hE := Lib.hid (show inB n lo hi = false by simp [inB, h2])
      go_enter Try.func43, Try.ntmps43
      go_wp2
      go_ret
      rw [hE.out]
      exact ⟨rfl, rfl⟩
  · have hE := Lib.hid (show inB n lo hi = false by simp [inB, h1])
    go_enter Try.func43, Try.ntmps43
    go_wp2
    go_ret
    rw [hE.out]
    exact ⟨rfl, rfl⟩

theorem rf15in_any (n lo hi : Int) (w : World) : Calls Try.prog 44 #[.int .i64 n, .int .i64 lo, .int .i64 hi] w fun e w' => e = .returned (.bool (inB n lo hi)) ∧ w' = w := by
  by_cases h1 : lo ≤ n
  · by_cases h2 : n ≤ hi
    · have hE := Lib.hid (show inB n lo hi = true by simp [inB, h1, h2])
      go_enter Try.func44, Try.ntmps44
      go_wp2
      go_ret
      rw [hE.out]
      exact ⟨rfl, rfl⟩
    · have hE := Lib.hid (show inB n lo hi = false by simp [inB, h2])
      go_enter Try.func44, Try.ntmps44
      go_wp2
      go_ret
      rw [hE.out]
      exact ⟨rfl, rfl⟩
  · have hE := Lib.hid (show inB n lo hi = false by simp [inB, h1])
    go_enter Try.func44, Try.ntmps44
    go_wp2
    go_ret
    rw [hE.out]
    exact ⟨rfl, rfl⟩

theorem rf8in_any (n lo hi : Int) (w : World) : Calls Try.prog 62 #[.int .i64 n, .int .i64 lo, .int .i64 hi] w fun e w' => e = .returned (.bool (inB n lo hi)) ∧ w' = w := by
  by_cases h1 : lo ≤ n
  · by_cases h2 : n ≤ hi
    · have hE := Lib.hid (show inB n lo hi = true by simp [inB, h1, h2])
      go_enter Try.func62, Try.ntmps62
      go_wp2
      go_ret
      rw [hE.out]
      exact ⟨rfl, rfl⟩
    · have hE := Lib.hid (show inB n lo hi = false by simp [inB, h2])
      go_enter Try.func62, Try.ntmps62
      go_wp2
      go_ret
      rw [hE.out]
      exact ⟨rfl, rfl⟩
  · have hE := Lib.hid (show inB n lo hi = false by simp [inB, h1])
    go_enter Try.func62, Try.ntmps62
    go_wp2
    go_ret
    rw [hE.out]
    exact ⟨rfl, rfl⟩

set_option maxHeartbeats 4000000 in
theorem gcheck_any (g : Geo) (w : World) : Calls Try.prog 33 #[gv g] w fun e w' => e = .returned (errV (okG g)) ∧ Below w.heap.size w w' := by
  have HB := Lib.hid ((Below.refl w.heap.size w).alloc (Nat.le_refl _) (.cells #[.int .i64 g.z, .int .i64 g.d, .int .i64 g.sp, .int .i64 g.sl, .int .i64 g.an] 23))
  unfold gv
  cases h0 : inB g.z 1 4 with
  | false =>
    have hE := Lib.hid (show okG g = false by simp [okG, h0])
    have c0 := fun w => gin_any g.z 1 4 w
    simp only [h0] at c0
    clear h0
    go_enter Try.func33, Try.ntmps33
    go_wp2_with (go_at_call 59; go_must (first | (with_reducible refine (c0 _).mono ?_)); rintro e w' ⟨rfl, rfl⟩)
    go_ret
    rw [hE.out]
    exact ⟨rfl, HB.out⟩
  | true =>
    cases h1 : inB g.d 1 4 with
    | false =>
      have hE := Lib.hid (show okG g = false by simp [okG, h0, h1])
      have c0 := fun w => gin_any g.z 1 4 w
      simp only [h0] at c0
      have c1 := fun w => gin_any g.d 1 4 w
      simp only [h1] at c1
      clear h0 h1
      go_enter Try.func33, Try.ntmps33
      go_wp2_with (go_at_call 59; go_must (first | (with_reducible refine (c0 _).mono ?_) | (with_reducible refine (c1 _).mono ?_)); rintro e w' ⟨rfl, rfl⟩)
      go_ret
      rw [hE.out]
      exact ⟨rfl, HB.out⟩
    | true =>
      cases h2 : inB g.sp 0 2 with
      | false =>
        have hE := Lib.hid (show okG g = false by simp [okG, h0, h1, h2])
        have c0 := fun w => gin_any g.z 1 4 w
        simp only [h0] at c0
        have c1 := fun w => gin_any g.d 1 4 w
        simp only [h1] at c1
        have c2 := fun w => gin_any g.sp 0 2 w
        simp only [h2] at c2
        clear h0 h1 h2
        go_enter Try.func33, Try.ntmps33
        go_wp2_with (go_at_call 59; go_must (first | (with_reducible refine (c0 _).mono ?_) | (with_reducible refine (c1 _).mono ?_) | (with_reducible refine (c2 _).mono ?_)); rintro e w' ⟨rfl, rfl⟩)
        go_ret
        rw [hE.out]
        exact ⟨rfl, HB.out⟩
      | true =>
        cases h3 : inB g.sl 14 30 with
        | false =>
          have hE := Lib.hid (show okG g = false by simp [okG, h0, h1, h2, h3])
          have c0 := fun w => gin_any g.z 1 4 w
          simp only [h0] at c0
          have c1 := fun w => gin_any g.d 1 4 w
          simp only [h1] at c1
          have c2 := fun w => gin_any g.sp 0 2 w
          simp only [h2] at c2
          have c3 := fun w => gin_any g.sl 14 30 w
          simp only [h3] at c3
          clear h0 h1 h2 h3
          go_enter Try.func33, Try.ntmps33
          go_wp2_with (go_at_call 59; go_must (first | (with_reducible refine (c0 _).mono ?_) | (with_reducible refine (c1 _).mono ?_) | (with_reducible refine (c2 _).mono ?_) | (with_reducible refine (c3 _).mono ?_)); rintro e w' ⟨rfl, rfl⟩)
          go_ret
          rw [hE.out]
          exact ⟨rfl, HB.out⟩
        | true =>
          cases h4 : inB g.an 1 3 with
          | false =>
            have hE := Lib.hid (show okG g = false by simp [okG, h0, h1, h2, h3, h4])
            have c0 := fun w => gin_any g.z 1 4 w
            simp only [h0] at c0
            have c1 := fun w => gin_any g.d 1 4 w
            simp only [h1] at c1
            have c2 := fun w => gin_any g.sp 0 2 w
            simp only [h2] at c2
            have c3 := fun w => gin_any g.sl 14 30 w
            simp only [h3] at c3
            have c4 := fun w => gin_any g.an 1 3 w
            simp only [h4] at c4
            clear h0 h1 h2 h3 h4
            go_enter Try.func33, Try.ntmps33
            go_wp2_with (go_at_call 59; go_must (first | (with_reducible refine (c0 _).mono ?_) | (with_reducible refine (c1 _).mono ?_) | (with_reducible refine (c2 _).mono ?_) | (with_reducible refine (c3 _).mono ?_) | (with_reducible refine (c4 _).mono ?_)); rintro e w' ⟨rfl, rfl⟩)
            go_ret
            rw [hE.out]
            exact ⟨rfl, HB.out⟩
          | true =>
            have hE := Lib.hid (show okG g = true by simp [okG, h0, h1, h2, h3, h4])
            have c0 := fun w => gin_any g.z 1 4 w
            simp only [h0] at c0
            have c1 := fun w => gin_any g.d 1 4 w
            simp only [h1] at c1
            have c2 := fun w => gin_any g.sp 0 2 w
            simp only [h2] at c2
            have c3 := fun w => gin_any g.sl 14 30 w
            simp only [h3] at c3
            have c4 := fun w => gin_any g.an 1 3 w
            simp only [h4] at c4
            clear h0 h1 h2 h3 h4
            go_enter Try.func33, Try.ntmps33
            go_wp2_with (go_at_call 59; go_must (first | (with_reducible refine (c0 _).mono ?_) | (with_reducible refine (c1 _).mono ?_) | (with_reducible refine (c2 _).mono ?_) | (with_reducible refine (c3 _).mono ?_) | (with_reducible refine (c4 _).mono ?_)); rintro e w' ⟨rfl, rfl⟩)
            go_ret
            rw [hE.out]
            exact ⟨rfl, HB.out⟩

set_option maxHeartbeats 4000000 in
theorem rgeom_any (g : Geo) (w : World) : Calls Try.prog 19 #[gv g] w fun e w' => e = .returned (.bool (okG g)) ∧ Below w.heap.size w w' := by
  have HB := Lib.hid ((Below.refl w.heap.size w).alloc (Nat.le_refl _) (.cells #[.int .i64 g.z, .int .i64 g.d, .int .i64 g.sp, .int .i64 g.sl, .int .i64 g.an] 23))
  unfold gv
  cases h0 : inB g.z 1 4 with
  | false =>
    have hE := Lib.hid (show okG g = false by simp [okG, h0])
    have c0 := fun w => rf1in_any g.z 1 4 w
    simp only [h0] at c0
    clear h0
    go_enter Try.func19, Try.ntmps19
    go_wp2_with (go_at_call 43; go_must (first | (with_reducible refine (c0 _).mono ?_)); rintro e w' ⟨rfl, rfl⟩)
    go_ret
    rw [hE.out]
    exact ⟨rfl, HB.out⟩
  | true =>
    cases h1 : inB g.d 1 4 with
    | false =>
      have hE := Lib.hid (show okG g = false by simp [okG, h0, h1])
      have c0 := fun w => rf1in_any g.z 1 4 w
      simp only [h0] at c0
      have c1 := fun w => rf1in_any g.d 1 4 w
      simp only [h1] at c1
      clear h0 h1
      go_enter Try.func19, Try.ntmps19
      go_wp2_with (go_at_call 43; go_must (first | (with_reducible refine (c0 _).mono ?_) | (with_reducible refine (c1 _).mono ?_)); rintro e w' ⟨rfl, rfl⟩)
      go_ret
      rw [hE.out]
      exact ⟨rfl, HB.out⟩
    | true =>
      cases h2 : inB g.sp 0 2 with
      | false =>
        have hE := Lib.hid (show okG g = false by simp [okG, h0, h1, h2])
        have c0 := fun w => rf1in_any g.z 1 4 w
        simp only [h0] at c0
        have c1 := fun w => rf1in_any g.d 1 4 w
        simp only [h1] at c1
        have c2 := fun w => rf1in_any g.sp 0 2 w
        simp only [h2] at c2
        clear h0 h1 h2
        go_enter Try.func19, Try.ntmps19
        go_wp2_with (go_at_call 43; go_must (first | (with_reducible refine (c0 _).mono ?_) | (with_reducible refine (c1 _).mono ?_) | (with_reducible refine (c2 _).mono ?_)); rintro e w' ⟨rfl, rfl⟩)
        go_ret
        rw [hE.out]
        exact ⟨rfl, HB.out⟩
      | true =>
        cases h3 : inB g.sl 14 30 with
        | false =>
          have hE := Lib.hid (show okG g = false by simp [okG, h0, h1, h2, h3])
          have c0 := fun w => rf1in_any g.z 1 4 w
          simp only [h0] at c0
          have c1 := fun w => rf1in_any g.d 1 4 w
          simp only [h1] at c1
          have c2 := fun w => rf1in_any g.sp 0 2 w
          simp only [h2] at c2
          have c3 := fun w => rf1in_any g.sl 14 30 w
          simp only [h3] at c3
          clear h0 h1 h2 h3
          go_enter Try.func19, Try.ntmps19
          go_wp2_with (go_at_call 43; go_must (first | (with_reducible refine (c0 _).mono ?_) | (with_reducible refine (c1 _).mono ?_) | (with_reducible refine (c2 _).mono ?_) | (with_reducible refine (c3 _).mono ?_)); rintro e w' ⟨rfl, rfl⟩)
          go_ret
          rw [hE.out]
          exact ⟨rfl, HB.out⟩
        | true =>
          cases h4 : inB g.an 1 3 with
          | false =>
            have hE := Lib.hid (show okG g = false by simp [okG, h0, h1, h2, h3, h4])
            have c0 := fun w => rf1in_any g.z 1 4 w
            simp only [h0] at c0
            have c1 := fun w => rf1in_any g.d 1 4 w
            simp only [h1] at c1
            have c2 := fun w => rf1in_any g.sp 0 2 w
            simp only [h2] at c2
            have c3 := fun w => rf1in_any g.sl 14 30 w
            simp only [h3] at c3
            have c4 := fun w => rf1in_any g.an 1 3 w
            simp only [h4] at c4
            clear h0 h1 h2 h3 h4
            go_enter Try.func19, Try.ntmps19
            go_wp2_with (go_at_call 43; go_must (first | (with_reducible refine (c0 _).mono ?_) | (with_reducible refine (c1 _).mono ?_) | (with_reducible refine (c2 _).mono ?_) | (with_reducible refine (c3 _).mono ?_) | (with_reducible refine (c4 _).mono ?_)); rintro e w' ⟨rfl, rfl⟩)
            go_ret
            rw [hE.out]
            exact ⟨rfl, HB.out⟩
          | true =>
            have hE := Lib.hid (show okG g = true by simp [okG, h0, h1, h2, h3, h4])
            have c0 := fun w => rf1in_any g.z 1 4 w
            simp only [h0] at c0
            have c1 := fun w => rf1in_any g.d 1 4 w
            simp only [h1] at c1
            have c2 := fun w => rf1in_any g.sp 0 2 w
            simp only [h2] at c2
            have c3 := fun w => rf1in_any g.sl 14 30 w
            simp only [h3] at c3
            have c4 := fun w => rf1in_any g.an 1 3 w
            simp only [h4] at c4
            clear h0 h1 h2 h3 h4
            go_enter Try.func19, Try.ntmps19
            go_wp2_with (go_at_call 43; go_must (first | (with_reducible refine (c0 _).mono ?_) | (with_reducible refine (c1 _).mono ?_) | (with_reducible refine (c2 _).mono ?_) | (with_reducible refine (c3 _).mono ?_) | (with_reducible refine (c4 _).mono ?_)); rintro e w' ⟨rfl, rfl⟩)
            go_ret
            rw [hE.out]
            exact ⟨rfl, HB.out⟩

def num32 (n : Int) : Bool := inB n 0 4294967295
theorem num_any (n : Int) (w : World) : Calls Try.prog 75 #[.int .i64 n] w fun e w' => e = .returned (.bool (num32 n)) ∧ w' = w := by
  by_cases h1 : 0 ≤ n
  · by_cases h2 : n ≤ 4294967295
    · have hE := Lib.hid (show num32 n = true by simp [num32, inB, h1, h2])
      go_enter Try.func75, Try.ntmps75
      go_wp2
      go_ret
      rw [hE.out]
      exact ⟨rfl, rfl⟩
    · have hE := Lib.hid (show num32 n = false by simp [num32, inB, h2])
      go_enter Try.func75, Try.ntmps75
      go_wp2
      go_ret
      rw [hE.out]
      exact ⟨rfl, rfl⟩
  · have hE := Lib.hid (show num32 n = false by simp [num32, inB, h1])
    go_enter Try.func75, Try.ntmps75
    go_wp2
    go_ret
    rw [hE.out]
    exact ⟨rfl, rfl⟩
end Go.Proofs.Ytpknhpfbinplgaa
