/-
lock.one, lock.Check.
-/
import Derived.Test.YtombdkdidnoomaaLFunc
namespace Go.Proofs.Ytombdkdidnoomaa
open Go.RowKit
attribute [local go_sem ↓] Go.wp_at_zero Go.wp_at_succ

def oneL (x : Lk) : Bool := decide (x.reads.length ≤ 8) && ris x.reads && decide (-1 ≤ x.writer) && (decide (0 < x.reads.length) != (x.writer != -1))
def okL (l : List Lk) : Bool := decide (l.length ≤ 64) && ris (l.map Lk.lba) && l.all oneL

set_option maxHeartbeats 2000000 in
theorem one_any (x : Lk) (A : Option Addr) (C : Nat) (w : World) (M : Ms) (h : SlR w M (.slice A x.reads.length C) x.reads) (hl : x.reads.length ≤ 1000000000) :
    Calls Try.prog 35 #[.agg #[.int .i64 x.lba, .slice A x.reads.length C, .int .i64 x.writer]] w fun e w' => e = .returned (.bool (oneL x)) ∧ Below w.heap.size w w' := by
  have hB := (Below.refl w.heap.size w).alloc (Nat.le_refl _) (.cells #[.int .i64 x.lba, .slice A x.reads.length C, .int .i64 x.writer] 39)
  have hc := Lib.hid (rising_any _ x.reads _ M (h.mono (Keep.below hB)) hl)
  have HB := Lib.hid hB
  clear hB h
  by_cases h8 : 8 < x.reads.length
  · have hE := Lib.hid (show oneL x = false by simp [oneL, show ¬ x.reads.length ≤ 8 by omega])
    have h8' : (8 : Int) < x.reads.length := by omega
    go_enter Try.func35, Try.ntmps35
    go_wp2
    go_ret
    rw [hE.out]
    exact ⟨rfl, HB.out⟩
  have h8' : ¬ (8 : Int) < x.reads.length := by omega
  cases hr : ris x.reads with
  | false =>
    have hE := Lib.hid (show oneL x = false by simp [oneL, hr])
    rw [hr] at hc
    go_enter Try.func35, Try.ntmps35
    go_wp2_with (go_at_call 32; go_must (refine hc.out.mono ?_); rintro e w' ⟨rfl, rfl⟩)
    go_ret
    rw [hE.out]
    exact ⟨rfl, HB.out⟩
  | true =>
    rw [hr] at hc
    by_cases hw : x.writer < -1
    · have hE := Lib.hid (show oneL x = false by simp [oneL, show ¬ -1 ≤ x.writer by omega])
      go_enter Try.func35, Try.ntmps35
      go_wp2_with (go_at_call 32; go_must (refine hc.out.mono ?_); rintro e w' ⟨rfl, rfl⟩)
      go_ret
      rw [hE.out]
      exact ⟨rfl, HB.out⟩
    · have hE := Lib.hid (show oneL x = !(decide (0 < x.reads.length) == (x.writer != -1)) by
        simp only [oneL, hr, show x.reads.length ≤ 8 by omega, show -1 ≤ x.writer by omega, decide_true, Bool.true_and, bne])
      rw [hE.out]
      go_enter Try.func35, Try.ntmps35
      go_wp2_with (go_at_call 32; go_must (refine hc.out.mono ?_); rintro e w' ⟨rfl, rfl⟩)
      go_ret
      exact ⟨rfl, HB.out⟩

set_option maxHeartbeats 2000000 in
theorem bad_any (x : Lk) (A : Option Addr) (C : Nat) (w : World) (M : Ms) (h : SlR w M (.slice A x.reads.length C) x.reads) (hl : x.reads.length ≤ 1000000000) :
    Calls Try.prog 34 #[.agg #[.int .i64 x.lba, .slice A x.reads.length C, .int .i64 x.writer]] w fun e w' => e = .returned (.bool (!oneL x)) ∧ Below w.heap.size w w' := by
  have hB := (Below.refl w.heap.size w).alloc (Nat.le_refl _) (.cells #[.int .i64 x.lba, .slice A x.reads.length C, .int .i64 x.writer] 39)
  have hc := Lib.hid (one_any x A C _ M (h.mono (Keep.below hB)) hl)
  have HB := Lib.hid hB
  clear hB h
  go_enter Try.func34, Try.ntmps34
  go_wp2_with (go_at_call 35; go_must (refine hc.out.mono ?_); rintro e w' ⟨rfl, hB2⟩)
  go_ret
  exact ⟨rfl, HB.out.trans (hB2.mono HB.out.size)⟩

set_option maxHeartbeats 1000000 in
theorem ixfL_any (v : Value) (l : List Lk) (w : World) (M : Ms) (h : SlR w M v l) (hl : l.length ≤ 1000000000) (hb : ∀ x ∈ l, x.reads.length ≤ 1000000000) :
    Calls Try.prog 49 #[v, .func (.func 34) #[] #[]] w fun e w' => e = .returned (.int .i64 (idxP (fun x => !oneL x) l)) ∧ Below w.heap.size w w' := by
  obtain ⟨a, c, rfl⟩ := h.form
  have H := Lib.hid h
  have hcall := Lib.hid hb
  have eg : ∀ args w, (callFunc 34 args).run Try.prog w = .ok (.enter 34 args) w := enters_of Try.func34 (by kernel_rfl) rfl
  clear h hb
  go_enter Try.func49, Try.ntmps49
  go_wp2
  go_loopw [5, 8] (fun _ i wr => Below w.heap.size w wr ∧ ∃ k : Nat, k ≤ l.length ∧ i = .int .i64 k ∧ Hid (∀ j (hj : j < l.length), j < k → (!oneL l[j]) = false)) (fun _ i _ => l.length - (intOf i).toNat)
  case atStart => exact ⟨Below.refl _ _, 0, Nat.zero_le _, rfl, Lib.hid fun j _ hj => absurd hj (Nat.not_lt_zero _)⟩
  case round =>
    obtain ⟨hB, k, hk, rfl, hA⟩ := hrel
    have HB := Lib.hid hB
    by_cases hlt : k < l.length
    · obtain ⟨b1, o1, A1, C1, rfl, -, x1, y1, z1, s1⟩ := lk_at (H.out.mono (Keep.below hB)) hlt
      have hlt' : (k : Int) < l.length := by omega
      have hc1 := Lib.hid (bad_any l[k] A1 C1 wr M s1 (hcall.out _ (List.getElem_mem hlt)))
      clear s1 hB
      cases hq : oneL l[k] with
      | false =>
        have hE := Lib.hid (idxP_hit (q := fun x => !oneL x) hlt (by simp [hq]) hA.out)
        rw [hq] at hc1
        go_wp2_with (go_at_call 34; go_must (refine hc1.out.mono ?_); rintro e w' ⟨rfl, hB2⟩)
        go_ret
        rw [hE.out]
        exact ⟨rfl, HB.out.trans (hB2.mono HB.out.size)⟩
      | true =>
        have hE := Lib.hid (show ∀ j (hj : j < l.length), j < k + 1 → (!oneL l[j]) = false from fun j hj hjk => by
          by_cases e : j = k
          · subst e; simp [hq]
          · exact hA.out j hj (by omega))
        rw [hq] at hc1
        go_wp2_with (go_at_call 34; go_must (refine hc1.out.mono ?_); rintro e w' ⟨rfl, hB2⟩)
        go_roundw
        case rel => exact ⟨HB.out.trans (hB2.mono HB.out.size), k + 1, by omega, by go_num, hE⟩
        case measure => simp [intOf]; omega
    · obtain rfl : k = l.length := by omega
      have hE := Lib.hid (idxP_miss (q := fun x => !oneL x) (fun j hj => hA.out j hj hj))
      go_wp2
      go_ret
      rw [hE.out]
      exact ⟨rfl, HB.out⟩

set_option maxHeartbeats 1000000 in
theorem cfL_any (v : Value) (l : List Lk) (w : World) (M : Ms) (h : SlR w M v l) (hl : l.length ≤ 1000000000) (hb : ∀ x ∈ l, x.reads.length ≤ 1000000000) :
    Calls Try.prog 33 #[v, .func (.func 34) #[] #[]] w fun e w' => e = .returned (.bool (!l.all oneL)) ∧ Below w.heap.size w w' := by
  have hc := Lib.hid (ixfL_any v l w M h hl hb)
  obtain ⟨a, c, rfl⟩ := h.form
  rw [List.not_all_eq_any_not, ← idxP_any]
  clear h hb
  go_enter Try.func33, Try.ntmps33
  go_wp2_with (go_at_call 49; go_must (refine hc.out.mono ?_); rintro e w' ⟨rfl, hB⟩)
  go_ret
  exact ⟨rfl, hB⟩
end Go.Proofs.Ytombdkdidnoomaa
