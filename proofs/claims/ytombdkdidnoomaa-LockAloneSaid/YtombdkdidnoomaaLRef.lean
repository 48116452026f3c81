/-
The reference's rising.
-/
import Derived.Test.YtombdkdidnoomaaLWithout
namespace Go.Proofs.Ytombdkdidnoomaa
open Go.RowKit
attribute [local go_sem ↓] Go.wp_at_zero Go.wp_at_succ

set_option maxHeartbeats 4000000 in
theorem rrising_any (v : Value) (l : List Int) (w : World) (M : Ms) (h : SlR w M v l) (hl : l.length ≤ 1000000000) :
    Calls Try.prog 31 #[v] w fun e w' => e = .returned (.bool (ris l)) ∧ Below w.heap.size w w' := by
  obtain ⟨a, c, rfl⟩ := h.form
  have H := Lib.hid h
  clear h
  go_enter Try.func31, Try.ntmps31
  go_wp2
  go_loopw [3] (fun i wr => Below w.heap.size w wr ∧ ∃ k : Nat, k ≤ l.length ∧ i = .int .i64 k ∧ Hid (ris (l.take k) = true)) (fun i _ => l.length - (intOf i).toNat)
  case atStart => exact ⟨Below.refl _ _, 0, Nat.zero_le _, rfl, Lib.hid rfl⟩
  case round =>
    obtain ⟨hB, k, hk, rfl, hR⟩ := hrel
    have HB := Lib.hid hB
    by_cases hlt : k < l.length
    · obtain ⟨b, o, rfl, -, x1⟩ := int_at (H.out.mono (Keep.below hB)) hlt
      have hlt' : (k : Int) < l.length := by omega
      have HD := Lib.hid (HB.out.drew)
      clear hB HB
      cases k with
      | zero =>
        rw [Nat.add_zero] at x1
        have hS := Lib.hid (show wr.drew.cell? ⟨b, o, none⟩ = some (.int .i64 l[0]) from x1)
        clear x1
        go_wp2_with fail
        refine rp_enter [3, 12, 17] (fun w' => w'.cell? ⟨b, o, none⟩ = some (.int .i64 l[0])) (by kernel_rfl) ?_
        generalize wr.drew = wd at *
        by_cases hneg : l[0] < 0
        · have hE := Lib.hid (show ris l = false from ris_stop (k := 1) (by rw [ris_take0 hlt, decide_eq_false_iff_not]; omega))
          apply rp_pure 0 rfl (by kernel_rfl) (fun _ _ _ h => h) rfl
          · (intro W; go_simp; try rfl)
          · (go_simp; try rfl)
          apply rp_pure 1 rfl (by kernel_rfl) (fun _ _ _ h => h) rfl
          · (intro W; go_simp; try rfl)
          · (go_simp; try rfl)
          apply rp_pure 2 rfl (by kernel_rfl) (fun _ _ _ h => h) rfl
          · (intro W; go_simp; try rfl)
          · (go_simp; try rfl)
          apply rp_take 3 rfl (by kernel_rfl) (fun _ _ _ h => h) (hS.out) rfl
          · (rintro W s0; go_simp; try rfl)
          · (go_simp; try rfl)
          apply rp_pure 4 rfl (by kernel_rfl) (fun _ _ _ h => h) rfl
          · (intro W; go_simp; try rfl)
          · (go_simp; try rfl)
          apply rp_pure 5 rfl (by kernel_rfl) (fun _ _ _ h => h) rfl
          · (intro W; go_simp; try rfl)
          · (go_simp; try rfl)
          apply rp_skip 6 rfl (by kernel_rfl) (fun _ _ _ h => h) rfl
          · (go_simp; try rfl)
          apply rp_skip 7 rfl (by kernel_rfl) (fun _ _ _ h => h) rfl
          · (go_simp; try rfl)
          apply rp_skip 8 rfl (by kernel_rfl) (fun _ _ _ h => h) rfl
          · (go_simp; try rfl)
          apply rp_skip 9 rfl (by kernel_rfl) (fun _ _ _ h => h) rfl
          · (go_simp; try rfl)
          apply rp_skip 10 rfl (by kernel_rfl) (fun _ _ _ h => h) rfl
          · (go_simp; try rfl)
          apply rp_skip 11 rfl (by kernel_rfl) (fun _ _ _ h => h) rfl
          · (go_simp; try rfl)
          apply rp_skip 12 rfl (by kernel_rfl) (fun _ _ _ h => h) rfl
          · (go_simp; try rfl)
          apply rp_skip 13 rfl (by kernel_rfl) (fun _ _ _ h => h) rfl
          · (go_simp; try rfl)
          apply rp_skip 14 rfl (by kernel_rfl) (fun _ _ _ h => h) rfl
          · (go_simp; try rfl)
          apply rp_skip 15 rfl (by kernel_rfl) (fun _ _ _ h => h) rfl
          · (go_simp; try rfl)
          apply rp_skip 16 rfl (by kernel_rfl) (fun _ _ _ h => h) rfl
          · (go_simp; try rfl)
          apply rp_skip 17 rfl (by kernel_rfl) (fun _ _ _ h => h) rfl
          · (go_simp; try rfl)
          apply rp_skip 18 rfl (by kernel_rfl) (fun _ _ _ h => h) rfl
          · (go_simp; try rfl)
          apply rp_skip 19 rfl (by kernel_rfl) (fun _ _ _ h => h) rfl
          · (go_simp; try rfl)
          apply rp_pure 20 rfl (by kernel_rfl) (fun _ _ _ h => h) rfl
          · (intro W; go_simp; try rfl)
          · (go_simp; try rfl)
          refine rp_done (by kernel_rfl) ?_
          go_wp2
          go_ret
          rw [hE.out]
          exact ⟨rfl, HD.out⟩
        · have hE := Lib.hid (show ris (l.take 1) = true by rw [ris_take0 hlt, decide_eq_true_eq]; omega)
          apply rp_pure 0 rfl (by kernel_rfl) (fun _ _ _ h => h) rfl
          · (intro W; go_simp; try rfl)
          · (go_simp; try rfl)
          apply rp_pure 1 rfl (by kernel_rfl) (fun _ _ _ h => h) rfl
          · (intro W; go_simp; try rfl)
          · (go_simp; try rfl)
          apply rp_pure 2 rfl (by kernel_rfl) (fun _ _ _ h => h) rfl
          · (intro W; go_simp; try rfl)
          · (go_simp; try rfl)
          apply rp_take 3 rfl (by kernel_rfl) (fun _ _ _ h => h) (hS.out) rfl
          · (rintro W s0; go_simp; try rfl)
          · (go_simp; try rfl)
          apply rp_pure 4 rfl (by kernel_rfl) (fun _ _ _ h => h) rfl
          · (intro W; go_simp; try rfl)
          · (go_simp; try rfl)
          apply rp_pure 5 rfl (by kernel_rfl) (fun _ _ _ h => h) rfl
          · (intro W; go_simp; try rfl)
          · (go_simp; try rfl)
          apply rp_pure 6 rfl (by kernel_rfl) (fun _ _ _ h => h) rfl
          · (intro W; go_simp; try rfl)
          · (go_simp; try rfl)
          apply rp_pure 7 rfl (by kernel_rfl) (fun _ _ _ h => h) rfl
          · (intro W; go_simp; try rfl)
          · (go_simp; try rfl)
          apply rp_pure 8 rfl (by kernel_rfl) (fun _ _ _ h => h) rfl
          · (intro W; go_simp; try rfl)
          · (go_simp; try rfl)
          apply rp_skip 9 rfl (by kernel_rfl) (fun _ _ _ h => h) rfl
          · (go_simp; try rfl)
          apply rp_skip 10 rfl (by kernel_rfl) (fun _ _ _ h => h) rfl
          · (go_simp; try rfl)
          apply rp_skip 11 rfl (by kernel_rfl) (fun _ _ _ h => h) rfl
          · (go_simp; try rfl)
          apply rp_skip 12 rfl (by kernel_rfl) (fun _ _ _ h => h) rfl
          · (go_simp; try rfl)
          apply rp_skip 13 rfl (by kernel_rfl) (fun _ _ _ h => h) rfl
          · (go_simp; try rfl)
          apply rp_skip 14 rfl (by kernel_rfl) (fun _ _ _ h => h) rfl
          · (go_simp; try rfl)
          apply rp_skip 15 rfl (by kernel_rfl) (fun _ _ _ h => h) rfl
          · (go_simp; try rfl)
          apply rp_skip 16 rfl (by kernel_rfl) (fun _ _ _ h => h) rfl
          · (go_simp; try rfl)
          apply rp_skip 17 rfl (by kernel_rfl) (fun _ _ _ h => h) rfl
          · (go_simp; try rfl)
          apply rp_skip 18 rfl (by kernel_rfl) (fun _ _ _ h => h) rfl
          · (go_simp; try rfl)
          apply rp_pure 19 rfl (by kernel_rfl) (fun _ _ _ h => h) rfl
          · (intro W; go_simp; try rfl)
          · (go_simp; try rfl)
          apply rp_pure 20 rfl (by kernel_rfl) (fun _ _ _ h => h) rfl
          · (intro W; go_simp; try rfl)
          · (go_simp; try rfl)
          refine rp_done (by kernel_rfl) ?_
          go_wp2
          go_roundw
          case rel => exact ⟨HD.out, 1, hlt, by go_num, hE⟩
          case measure => simp [intOf]; omega
      | succ j =>
        have hj : j < l.length := by omega
        obtain ⟨b', o', e', -, x2⟩ := int_at (H.out.mono (Keep.below HD.out)) hj
        simp only [Option.some.injEq, Addr.mk.injEq, and_true] at e'
        obtain ⟨rfl, rfl⟩ := e'
        have hjl : (j : Int) < l.length := by omega
        have hpos : (0 : Int) < (j : Int) + 1 := by omega
        have hwj : IntKind.i64.wrap (j : Int) = j := by rw [IntKind.wrap_i64]; omega
        have hS := Lib.hid (show wr.drew.cell? ⟨b, o + (j + 1), none⟩ = some (.int .i64 l[j + 1]) ∧ wr.drew.cell? ⟨b, o + j, none⟩ = some (.int .i64 l[j]) from ⟨x1, x2⟩)
        clear x1 x2
        go_wp2_with fail
        refine rp_enter [3, 12, 17] (fun w' => w'.cell? ⟨b, o + (j + 1), none⟩ = some (.int .i64 l[j + 1]) ∧ w'.cell? ⟨b, o + j, none⟩ = some (.int .i64 l[j])) (by kernel_rfl) ?_
        generalize wr.drew = wd at *
        by_cases hle : l[j + 1] ≤ l[j]
        · have hE := Lib.hid (show ris l = false from ris_stop (k := j + 2) (by rw [ris_takeS hlt, Bool.and_eq_false_iff]; right; rw [decide_eq_false_iff_not]; omega))
          by_cases hneg : l[j + 1] < 0
          · apply rp_pure 0 rfl (by kernel_rfl) (fun _ _ _ h => h) rfl
            · (intro W; go_simp; try rfl)
            · (go_simp; try rfl)
            apply rp_pure 1 rfl (by kernel_rfl) (fun _ _ _ h => h) rfl
            · (intro W; go_simp; try rfl)
            · (go_simp; try rfl)
            apply rp_pure 2 rfl (by kernel_rfl) (fun _ _ _ h => h) rfl
            · (intro W; go_simp; try rfl)
            · (go_simp; try rfl)
            apply rp_take 3 rfl (by kernel_rfl) (fun _ _ _ h => h) (hS.out) rfl
            · (rintro W ⟨s0, s1⟩; go_simp; try rfl)
            · (go_simp; try rfl)
            apply rp_pure 4 rfl (by kernel_rfl) (fun _ _ _ h => h) rfl
            · (intro W; go_simp; try rfl)
            · (go_simp; try rfl)
            apply rp_pure 5 rfl (by kernel_rfl) (fun _ _ _ h => h) rfl
            · (intro W; go_simp; try rfl)
            · (go_simp; try rfl)
            apply rp_skip 6 rfl (by kernel_rfl) (fun _ _ _ h => h) rfl
            · (go_simp; try rfl)
            apply rp_skip 7 rfl (by kernel_rfl) (fun _ _ _ h => h) rfl
            · (go_simp; try rfl)
            apply rp_skip 8 rfl (by kernel_rfl) (fun _ _ _ h => h) rfl
            · (go_simp; try rfl)
            apply rp_skip 9 rfl (by kernel_rfl) (fun _ _ _ h => h) rfl
            · (go_simp; try rfl)
            apply rp_skip 10 rfl (by kernel_rfl) (fun _ _ _ h => h) rfl
            · (go_simp; try rfl)
            apply rp_skip 11 rfl (by kernel_rfl) (fun _ _ _ h => h) rfl
            · (go_simp; try rfl)
            apply rp_skip 12 rfl (by kernel_rfl) (fun _ _ _ h => h) rfl
            · (go_simp; try rfl)
            apply rp_skip 13 rfl (by kernel_rfl) (fun _ _ _ h => h) rfl
            · (go_simp; try rfl)
            apply rp_skip 14 rfl (by kernel_rfl) (fun _ _ _ h => h) rfl
            · (go_simp; try rfl)
            apply rp_skip 15 rfl (by kernel_rfl) (fun _ _ _ h => h) rfl
            · (go_simp; try rfl)
            apply rp_skip 16 rfl (by kernel_rfl) (fun _ _ _ h => h) rfl
            · (go_simp; try rfl)
            apply rp_skip 17 rfl (by kernel_rfl) (fun _ _ _ h => h) rfl
            · (go_simp; try rfl)
            apply rp_skip 18 rfl (by kernel_rfl) (fun _ _ _ h => h) rfl
            · (go_simp; try rfl)
            apply rp_skip 19 rfl (by kernel_rfl) (fun _ _ _ h => h) rfl
            · (go_simp; try rfl)
            apply rp_pure 20 rfl (by kernel_rfl) (fun _ _ _ h => h) rfl
            · (intro W; go_simp; try rfl)
            · (go_simp; try rfl)
            refine rp_done (by kernel_rfl) ?_
            go_wp2
            go_ret
            rw [hE.out]
            exact ⟨rfl, HD.out⟩
          · apply rp_pure 0 rfl (by kernel_rfl) (fun _ _ _ h => h) rfl
            · (intro W; go_simp; try rfl)
            · (go_simp; try rfl)
            apply rp_pure 1 rfl (by kernel_rfl) (fun _ _ _ h => h) rfl
            · (intro W; go_simp; try rfl)
            · (go_simp; try rfl)
            apply rp_pure 2 rfl (by kernel_rfl) (fun _ _ _ h => h) rfl
            · (intro W; go_simp; try rfl)
            · (go_simp; try rfl)
            apply rp_take 3 rfl (by kernel_rfl) (fun _ _ _ h => h) (hS.out) rfl
            · (rintro W ⟨s0, s1⟩; go_simp; try rfl)
            · (go_simp; try rfl)
            apply rp_pure 4 rfl (by kernel_rfl) (fun _ _ _ h => h) rfl
            · (intro W; go_simp; try rfl)
            · (go_simp; try rfl)
            apply rp_pure 5 rfl (by kernel_rfl) (fun _ _ _ h => h) rfl
            · (intro W; go_simp; try rfl)
            · (go_simp; try rfl)
            apply rp_pure 6 rfl (by kernel_rfl) (fun _ _ _ h => h) rfl
            · (intro W; go_simp; try rfl)
            · (go_simp; try rfl)
            apply rp_pure 7 rfl (by kernel_rfl) (fun _ _ _ h => h) rfl
            · (intro W; go_simp; try rfl)
            · (go_simp; try rfl)
            apply rp_pure 8 rfl (by kernel_rfl) (fun _ _ _ h => h) rfl
            · (intro W; go_simp; try rfl)
            · (go_simp; try rfl)
            apply rp_pure 9 rfl (by kernel_rfl) (fun _ _ _ h => h) rfl
            · (intro W; go_simp; try rfl)
            · (go_simp; try rfl)
            apply rp_pure 10 rfl (by kernel_rfl) (fun _ _ _ h => h) rfl
            · (intro W; go_simp; try rfl)
            · (go_simp; try rfl)
            apply rp_pure 11 rfl (by kernel_rfl) (fun _ _ _ h => h) rfl
            · (intro W; go_simp; try rfl)
            · (go_simp; try rfl)
            apply rp_take 12 rfl (by kernel_rfl) (fun _ _ _ h => h) (hS.out) rfl
            · (rintro W ⟨s0, s1⟩; go_simp; try rfl)
            · (go_simp; try rfl)
            apply rp_pure 13 rfl (by kernel_rfl) (fun _ _ _ h => h) rfl
            · (intro W; go_simp; try rfl)
            · (go_simp; try rfl)
            apply rp_pure 14 rfl (by kernel_rfl) (fun _ _ _ h => h) rfl
            · (intro W; go_simp; try rfl)
            · (go_simp; try rfl)
            apply rp_pure 15 rfl (by kernel_rfl) (fun _ _ _ h => h) rfl
            · (intro W; go_simp; try rfl)
            · (go_simp; try rfl)
            apply rp_pure 16 rfl (by kernel_rfl) (fun _ _ _ h => h) rfl
            · (intro W; go_simp; try rfl)
            · (go_simp; try rfl)
            apply rp_take 17 rfl (by kernel_rfl) (fun _ _ _ h => h) (hS.out) rfl
            · (rintro W ⟨s0, s1⟩; go_simp; try rfl)
            · (go_simp; try rfl)
            apply rp_pure 18 rfl (by kernel_rfl) (fun _ _ _ h => h) rfl
            · (intro W; go_simp; try rfl)
            · (go_simp; try rfl)
            apply rp_pure 19 rfl (by kernel_rfl) (fun _ _ _ h => h) rfl
            · (intro W; go_simp; try rfl)
            · (go_simp; try rfl)
            apply rp_pure 20 rfl (by kernel_rfl) (fun _ _ _ h => h) rfl
            · (intro W; go_simp; try rfl)
            · (go_simp; try rfl)
            refine rp_done (by kernel_rfl) ?_
            go_wp2
            go_ret
            rw [hE.out]
            exact ⟨rfl, HD.out⟩
        · have hE := Lib.hid (show ris (l.take (j + 2)) = true by rw [ris_takeS hlt, hR.out, Bool.true_and, decide_eq_true_eq]; omega)
          have hneg : ¬ l[j + 1] < 0 := by have := ris_pos hR.out (i := j) (by omega) hj; omega
          apply rp_pure 0 rfl (by kernel_rfl) (fun _ _ _ h => h) rfl
          · (intro W; go_simp; try rfl)
          · (go_simp; try rfl)
          apply rp_pure 1 rfl (by kernel_rfl) (fun _ _ _ h => h) rfl
          · (intro W; go_simp; try rfl)
          · (go_simp; try rfl)
          apply rp_pure 2 rfl (by kernel_rfl) (fun _ _ _ h => h) rfl
          · (intro W; go_simp; try rfl)
          · (go_simp; try rfl)
          apply rp_take 3 rfl (by kernel_rfl) (fun _ _ _ h => h) (hS.out) rfl
          · (rintro W ⟨s0, s1⟩; go_simp; try rfl)
          · (go_simp; try rfl)
          apply rp_pure 4 rfl (by kernel_rfl) (fun _ _ _ h => h) rfl
          · (intro W; go_simp; try rfl)
          · (go_simp; try rfl)
          apply rp_pure 5 rfl (by kernel_rfl) (fun _ _ _ h => h) rfl
          · (intro W; go_simp; try rfl)
          · (go_simp; try rfl)
          apply rp_pure 6 rfl (by kernel_rfl) (fun _ _ _ h => h) rfl
          · (intro W; go_simp; try rfl)
          · (go_simp; try rfl)
          apply rp_pure 7 rfl (by kernel_rfl) (fun _ _ _ h => h) rfl
          · (intro W; go_simp; try rfl)
          · (go_simp; try rfl)
          apply rp_pure 8 rfl (by kernel_rfl) (fun _ _ _ h => h) rfl
          · (intro W; go_simp; try rfl)
          · (go_simp; try rfl)
          apply rp_pure 9 rfl (by kernel_rfl) (fun _ _ _ h => h) rfl
          · (intro W; go_simp; try rfl)
          · (go_simp; try rfl)
          apply rp_pure 10 rfl (by kernel_rfl) (fun _ _ _ h => h) rfl
          · (intro W; go_simp; try rfl)
          · (go_simp; try rfl)
          apply rp_pure 11 rfl (by kernel_rfl) (fun _ _ _ h => h) rfl
          · (intro W; go_simp; try rfl)
          · (go_simp; try rfl)
          apply rp_take 12 rfl (by kernel_rfl) (fun _ _ _ h => h) (hS.out) rfl
          · (rintro W ⟨s0, s1⟩; go_simp; try rfl)
          · (go_simp; try rfl)
          apply rp_pure 13 rfl (by kernel_rfl) (fun _ _ _ h => h) rfl
          · (intro W; go_simp; try rfl)
          · (go_simp; try rfl)
          apply rp_pure 14 rfl (by kernel_rfl) (fun _ _ _ h => h) rfl
          · (intro W; go_simp; try rfl)
          · (go_simp; try rfl)
          apply rp_pure 15 rfl (by kernel_rfl) (fun _ _ _ h => h) rfl
          · (intro W; go_simp; try rfl)
          · (go_simp; try rfl)
          apply rp_pure 16 rfl (by kernel_rfl) (fun _ _ _ h => h) rfl
          · (intro W; go_simp; try rfl)
          · (go_simp; try rfl)
          apply rp_take 17 rfl (by kernel_rfl) (fun _ _ _ h => h) (hS.out) rfl
          · (rintro W ⟨s0, s1⟩; go_simp; try rfl)
          · (go_simp; try rfl)
          apply rp_pure 18 rfl (by kernel_rfl) (fun _ _ _ h => h) rfl
          · (intro W; go_simp; try rfl)
          · (go_simp; try rfl)
          apply rp_pure 19 rfl (by kernel_rfl) (fun _ _ _ h => h) rfl
          · (intro W; go_simp; try rfl)
          · (go_simp; try rfl)
          apply rp_pure 20 rfl (by kernel_rfl) (fun _ _ _ h => h) rfl
          · (intro W; go_simp; try rfl)
          · (go_simp; try rfl)
          refine rp_done (by kernel_rfl) ?_
          go_wp2
          go_roundw
          case rel => exact ⟨HD.out, j + 2, hlt, by go_num, hE⟩
          case measure => simp [intOf]; omega
    · obtain rfl : k = l.length := by omega
      have hE := Lib.hid (show ris l = true by have := hR.out; rwa [List.take_length] at this)
      go_wp2
      go_ret
      rw [hE.out]
      exact ⟨rfl, HB.out⟩
end Go.Proofs.Ytombdkdidnoomaa
