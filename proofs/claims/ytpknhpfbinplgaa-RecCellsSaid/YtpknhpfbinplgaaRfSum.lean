/-
The reference's sum.
-/
import Derived.Test.YtpknhpfbinplgaaRcSum
namespace Go.Proofs.Ytpknhpfbinplgaa
open Go.RowKit
attribute [local go_sem ↓] Go.wp_at_zero Go.wp_at_succ

set_option maxHeartbeats 4000000 in
theorem rdown_any (N : Nat) (w : World) (hr : N < 4294967296) : Calls Try.prog 80 #[.int .i64 N] w fun e w' => e = .returned (.int .i64 (stepC N : Nat)) ∧ w' = w := by
  have hst := Lib.hid (show stepC N = N / 2 ^^^ (if N % 2 = 1 then polyN else 0) from rfl)
  have hdiv : ((N / 2 : Nat) : Int) = (N : Int) / 2 := by omega
  have hxor : bits .xor .i64 ((N : Int) / 2) 2197175160 = ((N / 2 ^^^ 2197175160 : Nat) : Int) := by rw [← hdiv]; exact i64_xor (N / 2) 2197175160 (by omega) (by omega)
  have hq : (N : Int).tdiv 2 = (N : Int) / 2 := Int.tdiv_eq_ediv_of_nonneg (by omega)
  have hrm : (N : Int).tmod 2 = ((N % 2 : Nat) : Int) := by rw [Int.tmod_eq_emod_of_nonneg (by omega)]; omega
  have hw : IntKind.i64.wrap ((N : Int) / 2) = (N : Int) / 2 := by rw [IntKind.wrap_i64]; omega
  have HD := Lib.hid hdiv
  rw [hst.out]
  clear hdiv
  rcases Nat.mod_two_eq_zero_or_one N with h2 | h2
  · rw [h2, if_neg (by omega), Nat.xor_zero, HD.out]
    rw [h2] at hrm
    have hrm0 : (N : Int).tmod 2 = 0 := hrm
    clear h2 hrm hxor hst
    go_enter Try.func80, Try.ntmps80
    go_wp2
    go_ret
    exact ⟨rfl, rfl⟩
  · rw [h2, if_pos rfl]
    rw [h2] at hrm
    have hrm1 : (N : Int).tmod 2 = 1 := hrm
    clear h2 hrm hst
    go_enter Try.func80, Try.ntmps80
    go_wp2
    go_ret
    exact ⟨rfl, rfl⟩

set_option maxHeartbeats 4000000 in
theorem reight_any (r : Nat) (w : World) (hr : r < 4294967296) : Calls Try.prog 79 #[.int .i64 r] w fun e w' => e = .returned (.int .i64 (eightC r : Nat)) ∧ w' = w := by
  have hE := Lib.hid (show eightC r = stepsC 8 r from rfl)
  rw [hE.out]
  go_enter Try.func79, Try.ntmps79
  go_wp2
  go_loopg [0, 3] 8 (fun gk s0 s3 wr => ∃ k : Nat, s3 = .int .i64 k ∧ k ≤ 8 ∧ 8 - k ≤ gk ∧ wr = w ∧ s0 = .int .i64 (stepsC k r : Nat))
  case atStart => exact ⟨0, rfl, by omega, by omega, rfl, rfl⟩
  case round =>
    obtain ⟨k, rfl, hkl, hgk, rfl, rfl⟩ := hrel
    by_cases hk : k < 8
    · have hk' : (k : Int) < 8 := by omega
      have hdn := Lib.hid (rdown_any (stepsC k r) wr (stepsC_lt k hr))
      rw [show stepC (stepsC k r) = stepsC (k + 1) r from rfl] at hdn
      go_wp2_with (go_at_call 80; go_must (with_reducible refine hdn.out.mono ?_); rintro e w1 ⟨rfl, rfl⟩)
      go_roundg (8 - (k + 1))
      case measure => omega
      case rel => exact ⟨k + 1, by go_num, by omega, by omega, rfl, rfl⟩
    · obtain rfl : k = 8 := by omega
      go_wp2
      go_ret
      exact ⟨rfl, rfl⟩

set_option maxHeartbeats 4000000 in
theorem rsum_any (v : Value) (b : List UInt8) (w : World) (Mi : Ms) (h : SlR w Mi v b) : Calls Try.prog 71 #[v] w fun e w' => e = .returned (.int .i64 (sumC b : Nat)) ∧ w' = w := by
  have hmo : Calls Try.prog 77 #[.int .i64 0, v] w fun e w' => e = .returned (.int .i64 (sumC b : Nat)) ∧ w' = w := by
    obtain ⟨a, c, rfl⟩ := h.form
    have hcap := h.cap
    have H := Lib.hid h.bare
    clear h
    go_enter Try.func77, Try.ntmps77
    go_wp2
    go_loopg [5, 6] b.length (fun gk s5 s6 wr => ∃ k : Nat, s6 = .int .i64 k ∧ k ≤ b.length ∧ b.length - k ≤ gk ∧ wr = w ∧ s5 = .int .i64 (foldC 4294967295 (b.take k) : Nat))
    case atStart => exact ⟨0, rfl, by omega, by omega, rfl, rfl⟩
    case round =>
      obtain ⟨k, rfl, hkl, hgk, rfl, rfl⟩ := hrel
      by_cases hk : k < b.length
      · have hk' : (k : Int) < b.length := by omega
        obtain ⟨bb, off, rfl, -, x1⟩ := u8_at H.out hk
        have hst := foldC_step (r := 4294967295) hk
        have hlt := foldC_lt (b.take k) (r := 4294967295) (by omega)
        obtain ⟨N, hN⟩ : ∃ N, N = foldC 4294967295 (b.take k) := ⟨_, rfl⟩
        rw [← hN] at hlt hst ⊢
        obtain ⟨y, hy⟩ : ∃ y, y = b[k].toNat := ⟨_, rfl⟩
        have hyl : y < 256 := by rw [hy]; exact b[k].toNat_lt
        rw [← hy] at x1 hst
        have hcy : IntKind.i64.wrap (y : Int) = y := by rw [IntKind.wrap_i64]; omega
        have hx1 : bits .xor .i64 (N : Int) (y : Int) = ((N ^^^ y : Nat) : Int) := i64_xor _ _ hlt (by omega)
        have hxl : N ^^^ y < 4294967296 := xor_lt hlt (by omega)
        obtain ⟨X, hX⟩ : ∃ X, X = N ^^^ y := ⟨_, rfl⟩
        rw [← hX] at hx1 hxl hst
        have hdn := Lib.hid (reight_any X wr hxl)
        rw [← hst] at hdn
        clear hN hy hX hst
        go_wp2_with (go_at_call 79; go_must (with_reducible refine hdn.out.mono ?_); rintro e w1 ⟨rfl, rfl⟩)
        go_roundg (b.length - (k + 1))
        case measure => omega
        case rel => exact ⟨k + 1, by go_num, by omega, by omega, rfl, rfl⟩
      · obtain rfl : k = b.length := by omega
        rw [List.take_length]
        have hlt := foldC_lt b (r := 4294967295) (by omega)
        have hE := Lib.hid (show ((sumC b : Nat) : Int) = 4294967295 - ((foldC 4294967295 b : Nat) : Int) by unfold sumC; omega)
        obtain ⟨N, hN⟩ : ∃ N, N = foldC 4294967295 b := ⟨_, rfl⟩
        rw [← hN] at hE hlt ⊢
        have hw : IntKind.i64.wrap (4294967295 - (N : Int)) = 4294967295 - (N : Int) := by rw [IntKind.wrap_i64]; omega
        clear hN
        go_wp2
        go_ret
        rw [hE.out]
        exact ⟨rfl, rfl⟩
  have hm := Lib.hid hmo
  obtain ⟨a, c, rfl⟩ := h.form
  obtain ⟨T, hT⟩ : ∃ T, T = sumC b := ⟨_, rfl⟩
  rw [← hT] at hm ⊢
  clear hmo hT h
  go_enter Try.func71, Try.ntmps71
  go_wp2_with (go_at_call 77; go_must (with_reducible refine hm.out.mono ?_); rintro e w1 ⟨rfl, rfl⟩)
  go_ret
  exact ⟨rfl, rfl⟩
end Go.Proofs.Ytpknhpfbinplgaa
