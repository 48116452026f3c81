/-
The law's own small parts: wakes, Heavy.
-/
import Derived.Test.YtombdkdidnoomaaLDrop
import Derived.Test.YtombdkdidnoomaaLWith
namespace Go.Proofs.Ytombdkdidnoomaa
open Go.RowKit
attribute [local go_sem ↓] Go.wp_at_zero Go.wp_at_succ

def heavyB (l : List Lk) : Bool := decide (80 < l.length) || l.any fun x => decide (20 < x.reads.length)
set_option maxHeartbeats 1000000 in
theorem heavy_any (v : Value) (l : List Lk) (w : World) (M : Ms) (h : SlR w M v l) :
    Calls Try.prog 6 #[v] w fun e w' => e = .returned (.bool (heavyB l)) ∧ w = w' := by
  obtain ⟨a, c, rfl⟩ := h.form
  have hcp := h.cap
  have H := Lib.hid h
  clear h
  by_cases h80 : 80 < l.length
  · have hE := Lib.hid (show heavyB l = true by simp [heavyB, h80])
    have h80' : (80 : Int) < l.length := by omega
    go_enter Try.func6, Try.ntmps6
    go_wp2
    go_ret
    rw [hE.out]
    exact ⟨rfl, rfl⟩
  have h80' : ¬ (80 : Int) < l.length := by omega
  have H80 := Lib.hid h80
  clear hcp
  go_enter Try.func6, Try.ntmps6
  go_wp2
  clear h80'
  go_loopw [3] (fun i wr => wr = w ∧ ∃ k : Nat, k ≤ l.length ∧ i = .int .i64 k ∧ Hid (∀ j (hj : j < l.length), j < k → decide (20 < l[j].reads.length) = false)) (fun i _ => l.length - (intOf i).toNat)
  case atStart => exact ⟨rfl, 0, Nat.zero_le _, rfl, Lib.hid fun j _ hj => absurd hj (Nat.not_lt_zero _)⟩
  case round =>
    obtain ⟨rfl, k, hk, rfl, hA⟩ := hrel
    by_cases hlt : k < l.length
    · obtain ⟨b1, o1, A1, C1, rfl, -, x1, y1, z1, s1⟩ := lk_at H.out hlt
      have hlt' : (k : Int) < l.length := by omega
      have hcs := s1.cap
      clear s1
      by_cases h20 : 20 < l[k].reads.length
      · have hE := Lib.hid (show heavyB l = true by
          simp only [heavyB, Bool.or_eq_true, List.any_eq_true]
          exact .inr ⟨l[k], List.getElem_mem hlt, by simpa using h20⟩)
        have h20' : (20 : Int) < l[k].reads.length := by omega
        go_wp2
        go_ret
        rw [hE.out]
        exact ⟨rfl, rfl⟩
      · have hE := Lib.hid (show ∀ j (hj : j < l.length), j < k + 1 → decide (20 < l[j].reads.length) = false from fun j hj hjk => by
          by_cases e : j = k
          · subst e; exact decide_eq_false h20
          · exact hA.out j hj (by omega))
        have h20' : ¬ (20 : Int) < l[k].reads.length := by omega
        go_wp2
        go_roundw
        case rel => exact ⟨trivial, k + 1, by omega, by go_num, hE⟩
        case measure => simp [intOf]; omega
    · obtain rfl : k = l.length := by omega
      have hE := Lib.hid (show heavyB l = false by
        simp only [heavyB, Bool.or_eq_false_iff]
        refine ⟨decide_eq_false H80.out, ?_⟩
        rw [List.any_eq_false]
        intro x hx
        obtain ⟨j, hj, rfl⟩ := List.getElem_of_mem hx
        have := hA.out j hj hj
        simpa using this)
      go_wp2
      go_ret
      rw [hE.out]
      exact ⟨rfl, rfl⟩

set_option maxHeartbeats 4000000 in
theorem wakes_any (w : World) : Calls Try.prog 14 #[] w fun e w' => e = .returned (.bool true) ∧ Below w.heap.size w w' := by
  have p1 := Lib.hid (show readL [] 0 5 = ([⟨5, [0], -1⟩], 0) by decide)
  have p2 := Lib.hid (show writeL [⟨5, [0], -1⟩] 1 5 = ([], 22) by decide)
  have p3 := Lib.hid (show writeL [⟨5, [0], -1⟩] 0 5 = ([⟨5, [], 0⟩], 0) by decide)
  have p4 := Lib.hid (show readL [⟨5, [], 0⟩] 1 5 = ([], 22) by decide)
  have p5 := Lib.hid (show dropL [⟨5, [], 0⟩] 0 = ([], 0) by decide)
  have p6 := Lib.hid (show errL (okL [⟨0, [], 0⟩]) = 0 by decide)
  have hc1 := Lib.hid (read_any (.slice none 0 0) [] 0 5 w noM (sl_nil _ _ _ (by simp [maxLen])) (by simp) (by simp) (fun x hx => by simp at hx) (by decide))
  go_enter Try.func14, Try.ntmps14
  go_wp2_with fail
  ((with_reducible refine hc1.out.mono ?_); rintro e w1 ⟨r1, rfl, hd1, hB1⟩)
  rw [p1.out] at hd1 ⊢
  obtain ⟨A1, c1, rfl⟩ := hd1.form
  have S1 := Lib.hid (hd1.sl (M := noM) (fun _ _ h => h))
  have B1 := Lib.hid hB1
  have hc2 := Lib.hid (write_any _ [⟨5, [0], -1⟩] 1 5 w1 noM S1.out (by simp) (by simp) (fun x hx => by simp at hx; subst hx; decide) (by decide))
  simp only [List.length_singleton] at hc2 ⊢
  clear hd1 hB1 hc1
  go_wp2_with fail
  ((with_reducible refine hc2.out.mono ?_); rintro e w2 ⟨r2, rfl, hd2, hB2⟩)
  rw [p2.out] at hd2 ⊢
  have B2 := Lib.hid (B1.out.trans (hB2.mono B1.out.size))
  have S2 := Lib.hid (S1.out.mono (Keep.below hB2))
  have hc3 := Lib.hid (write_any _ [⟨5, [0], -1⟩] 0 5 w2 noM S2.out (by simp) (by simp) (fun x hx => by simp at hx; subst hx; decide) (by decide))
  simp only [List.length_singleton] at hc3 ⊢
  clear hd2 hB2 hc2
  go_wp2_with fail
  ((with_reducible refine hc3.out.mono ?_); rintro e w3 ⟨r3, rfl, hd3, hB3⟩)
  rw [p3.out] at hd3 ⊢
  obtain ⟨A3, c3, rfl⟩ := hd3.form
  have B3 := Lib.hid (B2.out.trans (hB3.mono B2.out.size))
  have S3 := Lib.hid (hd3.sl (M := noM) (fun _ _ h => h))
  have hc4 := Lib.hid (read_any _ [⟨5, [], 0⟩] 1 5 w3 noM S3.out (by simp) (by simp) (fun x hx => by simp at hx; subst hx; decide) (by decide))
  simp only [List.length_singleton] at hc4 ⊢
  clear hd3 hB3 hc3
  go_wp2_with fail
  ((with_reducible refine hc4.out.mono ?_); rintro e w4 ⟨r4, rfl, hd4, hB4⟩)
  rw [p4.out] at hd4 ⊢
  have B4 := Lib.hid (B3.out.trans (hB4.mono B3.out.size))
  have S4 := Lib.hid (S3.out.mono (Keep.below hB4))
  have hc5 := Lib.hid (drop_any _ [⟨5, [], 0⟩] 0 w4 noM S4.out (by simp) (by simp))
  simp only [List.length_singleton] at hc5 ⊢
  clear hd4 hB4 hc4
  go_wp2_with fail
  ((with_reducible refine hc5.out.mono ?_); rintro e w5 ⟨r5, rfl, hd5, hB5⟩)
  rw [p5.out] at hd5 ⊢
  obtain ⟨A5, c5, rfl⟩ := hd5.form
  have B5 := Lib.hid (B4.out.trans (hB5.mono B4.out.size))
  obtain ⟨b3, o3, Ax, Cx, e3, -, x3, y3, z3, s3⟩ := lk_at (S4.out.mono (Keep.below hB5)) (show 0 < ([⟨5, [], 0⟩] : List Lk).length by simp)
  cases e3
  simp only [Nat.zero_mul, Nat.add_zero, List.getElem_cons_zero] at x3 y3 z3
  have hb6 := B5.out.alloc B5.out.size (.cells #[.int .i64 0, .slice none 0 0, .int .i64 0] 39)
  have hblk := Blk.new w5 39 #[.int .i64 0, .slice none 0 0, .int .i64 0]
  have hc6 := Lib.hid (check_any _ [⟨0, [], 0⟩] _ noM (SlR.one (M := noM) (x := (⟨0, [], 0⟩ : Lk)) hblk ⟨_, rfl, sl_nil _ _ _ (by simp [maxLen])⟩ (fun h => h)) (by simp) (by simp))
  rw [p6.out] at hc6
  have B6 := Lib.hid hb6
  simp only [List.length_nil] at *
  clear hd5 hB5 hc5 hb6 hblk s3
  go_wp2_with (go_at_call 13; go_must (refine hc6.out.mono ?_); rintro e w7 ⟨rfl, hB7⟩)
  go_ret
  exact ⟨rfl, B6.out.trans (hB7.mono B6.out.size)⟩
end Go.Proofs.Ytombdkdidnoomaa
