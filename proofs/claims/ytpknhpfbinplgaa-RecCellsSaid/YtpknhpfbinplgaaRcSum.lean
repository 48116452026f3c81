/-
Package sum; the reference's sum.
-/
import Derived.Test.YtpknhpfbinplgaaRcCrc
import Derived.Laws.BitsAllLaws
namespace Go.Proofs.Ytpknhpfbinplgaa
open Go.RowKit
attribute [local go_sem ↓] Go.wp_at_zero Go.wp_at_succ

theorem i64_xor (a b : Nat) (ha : a < 4294967296) (hb : b < 4294967296) : bits .xor .i64 (a : Int) (b : Int) = ((a ^^^ b : Nat) : Int) := by
  have ha' : a % 2 ^ IntKind.i64.bits = a := Nat.mod_eq_of_lt (show a < 18446744073709551616 by omega)
  have hb' : b % 2 ^ IntKind.i64.bits = b := Nat.mod_eq_of_lt (show b < 18446744073709551616 by omega)
  have h := xor_lt ha hb
  simp only [bits, BitVec.ofInt_natCast, BitVec.toNat_xor, BitVec.toNat_ofNat, ha', hb']
  rw [IntKind.wrap_i64]
  omega
theorem not_u32 (N : Nat) (h : N < 4294967296) : 4294967295 ^^^ N = 4294967295 - N := by
  have e := congrArg BitVec.toNat (BitVec.allOnes_xor (x := BitVec.ofNat 32 N))
  rw [BitVec.toNat_xor, BitVec.toNat_not, BitVec.toNat_allOnes, BitVec.toNat_ofNat, Nat.mod_eq_of_lt h] at e
  exact e
theorem not_bits (N : Nat) (h : N < 4294967296) : bits .xor .u32 IntKind.u32.max (N : Int) = ((4294967295 - N : Nat) : Int) := by
  rw [← not_u32 N h]
  exact u32_xor_nat 4294967295 N (by omega) h
theorem low_and (r : Nat) : r &&& 1 = r % 2 := Nat.and_one_is_mod r
theorem byte_and (r : Nat) : r &&& 255 = r % 256 := Nat.and_two_pow_sub_one_eq_mod r 8

set_option maxHeartbeats 4000000 in
theorem down_any (r : Nat) (w : World) (hr : r < 4294967296) : Calls Try.prog 72 #[.int .u32 r] w fun e w' => e = .returned (.int .u32 (eightC r : Nat)) ∧ w' = w := by
  have hE := Lib.hid (show eightC r = stepsC 8 r from rfl)
  rw [hE.out]
  go_enter Try.func72, Try.ntmps72
  go_wp2
  go_loopg [0, 4] 8 (fun gk s0 s4 wr => ∃ k : Nat, s4 = .int .i64 k ∧ k ≤ 8 ∧ 8 - k ≤ gk ∧ wr = w ∧ s0 = .int .u32 (stepsC k r : Nat))
  case atStart => exact ⟨0, rfl, by omega, by omega, rfl, rfl⟩
  case round =>
    obtain ⟨k, rfl, hkl, hgk, rfl, rfl⟩ := hrel
    by_cases hk : k < 8
    · have hk' : (k : Int) < 8 := by omega
      have hst := Lib.hid (show stepsC (k + 1) r = stepsC k r / 2 ^^^ (if stepsC k r % 2 = 1 then polyN else 0) from rfl)
      have hlt := stepsC_lt k hr
      obtain ⟨N, hN⟩ : ∃ N, N = stepsC k r := ⟨_, rfl⟩
      rw [← hN] at hlt hst ⊢
      have hand : bits .and .u32 (N : Int) 1 = ((N % 2 : Nat) : Int) := by rw [← low_and]; exact u32_and_nat N 1 hlt (by omega)
      have hdiv : ((N / 2 : Nat) : Int) = (N : Int) / 2 := by omega
      have hxor : bits .xor .u32 ((N : Int) / 2) 2197175160 = ((N / 2 ^^^ 2197175160 : Nat) : Int) := by rw [← hdiv]; exact u32_xor_nat (N / 2) 2197175160 (by omega) (by omega)
      have HD := Lib.hid hdiv
      clear hN hdiv
      rcases Nat.mod_two_eq_zero_or_one N with h2 | h2
      · rw [h2, if_neg (by omega), Nat.xor_zero] at hst
        rw [h2] at hand
        have hand0 : bits .and .u32 (N : Int) 1 = 0 := hand
        clear h2 hxor hand
        go_wp2
        go_roundg (8 - (k + 1))
        case measure => omega
        case rel => exact ⟨k + 1, by go_num, by omega, by omega, rfl, by rw [hst.out, HD.out]⟩
      · rw [h2, if_pos rfl] at hst
        rw [h2] at hand
        have hand1 : bits .and .u32 (N : Int) 1 = 1 := hand
        clear h2 hand
        go_wp2
        go_roundg (8 - (k + 1))
        case measure => omega
        case rel => exact ⟨k + 1, by go_num, by omega, by omega, rfl, by rw [hst.out]; rfl⟩
    · obtain rfl : k = 8 := by omega
      go_wp2
      go_ret
      exact ⟨rfl, rfl⟩

set_option maxHeartbeats 4000000 in
theorem on_any (v : Value) (b : List UInt8) (w : World) (Mi : Ms) (h : SlR w Mi v b) : Calls Try.prog 66 #[.int .u32 4294967295, v] w fun e w' => e = .returned (.int .u32 (foldC 4294967295 b : Nat)) ∧ w' = w := by
  obtain ⟨a, c, rfl⟩ := h.form
  have hcap := h.cap
  have H := Lib.hid h.bare
  clear h
  go_enter Try.func66, Try.ntmps66
  go_wp2
  go_loopg [0, 9] b.length (fun gk s0 s9 wr => ∃ k : Nat, s9 = .int .i64 k ∧ k ≤ b.length ∧ b.length - k ≤ gk ∧ wr = w ∧ s0 = .int .u32 (foldC 4294967295 (b.take k) : Nat))
  case atStart => exact ⟨0, rfl, by omega, by omega, rfl, rfl⟩
  case round =>
    obtain ⟨k, rfl, hkl, hgk, rfl, rfl⟩ := hrel
    by_cases hk : k < b.length
    · have hk' : (k : Int) < b.length := by omega
      obtain ⟨bb, off, rfl, -, x1⟩ := u8_at H.out hk
      have hst := foldC_step (r := 4294967295) hk
      have hlt := foldC_lt (b.take k) (r := 4294967295) (by omega)
      obtain ⟨N, hN⟩ : ∃ N, N = foldC 4294967295 (b.take k) := ⟨_, rfl⟩
      rw [← hN] at hlt hst ⊢
      rw [eightC_byte] at hst
      obtain ⟨y, hy⟩ : ∃ y, y = b[k].toNat := ⟨_, rfl⟩
      have hyl : y < 256 := by rw [hy]; exact b[k].toNat_lt
      rw [← hy] at x1 hst
      have hand : bits .and .u32 (N : Int) 255 = ((N % 256 : Nat) : Int) := by rw [← byte_and]; exact u32_and_nat N 255 hlt (by omega)
      have hcy : IntKind.u32.wrap (y : Int) = y := by rw [IntKind.wrap_u32]; omega
      have hx1 : bits .xor .u32 ((N % 256 : Nat) : Int) (y : Int) = ((N % 256 ^^^ y : Nat) : Int) := u32_xor_nat _ _ (by omega) (by omega)
      have hxl : N % 256 ^^^ y < 4294967296 := xor_lt (by omega) (by omega)
      obtain ⟨X, hX⟩ : ∃ X, X = N % 256 ^^^ y := ⟨_, rfl⟩
      rw [← hX] at hx1 hxl hst
      have hdn := Lib.hid (down_any X wr hxl)
      have hel := eightC_lt hxl
      obtain ⟨Z, hZ⟩ : ∃ Z, Z = eightC X := ⟨_, rfl⟩
      rw [← hZ] at hdn hel hst
      have hdiv : ((N / 256 : Nat) : Int) = (N : Int) / 256 := by omega
      have hx2 : bits .xor .u32 ((N : Int) / 256) (Z : Int) = ((N / 256 ^^^ Z : Nat) : Int) := by rw [← hdiv]; exact u32_xor_nat _ _ (by omega) hel
      obtain ⟨T, hT⟩ : ∃ T, T = N % 256 := ⟨_, rfl⟩
      rw [← hT] at hand hx1
      have hst := Lib.hid hst
      clear hN hy hX hZ hdiv hT
      go_wp2_with (go_at_call 72; go_must (with_reducible refine hdn.out.mono ?_); rintro e w1 ⟨rfl, rfl⟩)
      go_roundg (b.length - (k + 1))
      case measure => omega
      case rel => exact ⟨k + 1, by go_num, by omega, by omega, rfl, by rw [hst.out]⟩
    · obtain rfl : k = b.length := by omega
      rw [List.take_length]
      go_wp2
      go_ret
      exact ⟨rfl, rfl⟩
set_option maxHeartbeats 4000000 in
theorem sumOf_any (v : Value) (b : List UInt8) (w : World) (Mi : Ms) (h : SlR w Mi v b) : Calls Try.prog 56 #[v] w fun e w' => e = .returned (.int .i64 (sumC b : Nat)) ∧ w' = w := by
  have hon := Lib.hid (on_any v b w Mi h)
  have hE := Lib.hid (show sumC b = 4294967295 - foldC 4294967295 b from rfl)
  have hlt := foldC_lt b (r := 4294967295) (by omega)
  obtain ⟨N, hN⟩ : ∃ N, N = foldC 4294967295 b := ⟨_, rfl⟩
  rw [hE.out]
  rw [← hN] at hon hlt ⊢
  obtain ⟨a, c, rfl⟩ := h.form
  have hnb := not_bits N hlt
  obtain ⟨T, hT⟩ : ∃ T, T = 4294967295 - N := ⟨_, rfl⟩
  have hTl : T ≤ 4294967295 := by omega
  rw [← hT] at hnb ⊢
  have hw : wrap64 (T : Int) = T := by unfold wrap64; omega
  clear hE hN h hT
  go_enter Try.func56, Try.ntmps56
  go_wp2_with (go_at_call 66; go_must (with_reducible refine hon.out.mono ?_); rintro e w1 ⟨rfl, rfl⟩)
  go_ret
  exact ⟨rfl, rfl⟩
end Go.Proofs.Ytpknhpfbinplgaa
