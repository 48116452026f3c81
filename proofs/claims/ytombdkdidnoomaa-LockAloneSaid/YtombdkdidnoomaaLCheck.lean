/-
lock.Check tells whether locks are right.
-/
import Derived.Test.YtombdkdidnoomaaLAt
namespace Go.Proofs.Ytombdkdidnoomaa
open Go.RowKit
attribute [local go_sem ↓] Go.wp_at_zero Go.wp_at_succ

def errL (b : Bool) : Int := if b then 0 else 1
set_option maxHeartbeats 4000000 in
theorem check_any (v : Value) (l : List Lk) (w : World) (M : Ms) (h : SlR w M v l) (hl : l.length ≤ 1000000) (hb : ∀ x ∈ l, x.reads.length ≤ 1000000000) :
    Calls Try.prog 13 #[v] w fun e w' => e = .returned (.int .i64 (errL (okL l))) ∧ Below w.heap.size w w' := by
  obtain ⟨a, c, rfl⟩ := h.form
  have H := Lib.hid h
  have HBL := Lib.hid hb
  clear h hb
  go_enter Try.func13, Try.ntmps13
  go_wp2
  go_loopw [3, 8] (fun o i wr => ∃ k : Nat, k ≤ l.length ∧ i = .int .i64 k ∧ Below w.heap.size w wr ∧ Hid (OwR wr noM w.heap.size 3 o ((l.map Lk.lba).take k))) (fun _ i _ => l.length - (intOf i).toNat)
  case atStart => exact ⟨0, Nat.zero_le _, rfl, Below.refl _ _, Lib.hid (OwR.nil _ _ _ _)⟩
  case round =>
    obtain ⟨k, hk, rfl, hB, hO⟩ := hrel
    have HB := Lib.hid hB
    by_cases hlt : k < l.length
    · obtain ⟨b1, o1, A1, C1, rfl, -, x1, y1, z1, s1⟩ := lk_at (H.out.mono (Keep.below hB)) hlt
      have hlt' : (k : Int) < l.length := by omega
      clear hB s1
      have hb1 := (Below.refl wr.heap.size wr).alloc (Nat.le_refl _) (.cells #[.int .i64 l[k].lba, .slice A1 l[k].reads.length C1, .int .i64 l[k].writer] 39)
      have hE := Lib.hid (show (l.map Lk.lba).take (k + 1) = (l.map Lk.lba).take k ++ [l[k].lba] by rw [List.take_add_one, List.getElem?_eq_getElem (by simpa using hlt)]; simp)
      have hb2 := hb1.alloc (by simp) (.cells #[.int .i64 l[k].lba] 3)
      have hblk := Blk.new (wr.alloc (.cells #[.int .i64 l[k].lba, .slice A1 l[k].reads.length C1, .int .i64 l[k].writer] 39)) 3 #[.int .i64 l[k].lba]
      have O3 := Lib.hid (hO.out.below hb2)
      have HB3 := Lib.hid (HB.out.trans (hb2.mono HB.out.size))
      have hlk : ((l.map Lk.lba).take k).length + 1 ≤ 1000000000 := by rw [List.length_take, List.length_map]; omega
      have hS := Lib.hid (show SlR ((wr.alloc (.cells #[.int .i64 l[k].lba, .slice A1 l[k].reads.length C1, .int .i64 l[k].writer] 39)).alloc (.cells #[.int .i64 l[k].lba] 3)) (fun b => noM b ∨ u3.ownBlock = some b) (.slice (some ⟨wr.heap.size + 1, 0, none⟩) 1 1) [l[k].lba] from by
        have := SlR.one (M := fun b => noM b ∨ u3.ownBlock = some b) (x := l[k].lba) hblk rfl (fun h' => h'.elim (fun h => h) (fun h => by have := hO.out.own_lt h; simp at this; omega))
        simpa using this)
      clear hb1 hb2 hblk
      go_wp2_with (at_builtin; go_must (refine wpList_append_R (α := Int) (M := noM) (base := w.heap.size) (l := (l.map Lk.lba).take k) (m := [l[k].lba]) rfl (by rfl) tyI (by rfl) O3.out (by rfl) hS.out (by simpa using hlk) HB3.out.size ?_); intro v4 w4 ho4 hg4 hat4)
      rw [← hE.out] at ho4
      go_roundw
      case rel => exact ⟨k + 1, by omega, by go_num, HB3.out.grown hg4 HB3.out.size (fun b e => O3.out.own_ge e), Lib.hid ho4⟩
      case measure => simp [intOf]; omega
    · obtain rfl : k = l.length := by omega
      have hO' := Lib.hid (show OwR wr noM w.heap.size 3 u3 (l.map Lk.lba) by have := hO.out; rwa [List.take_of_length_le (by simp)] at this)
      clear hO hB
      by_cases h64 : 64 < l.length
      · have hE := Lib.hid (show errL (okL l) = 1 by simp [errL, okL, show ¬ l.length ≤ 64 by omega])
        have h64' : (64 : Int) < l.length := by omega
        go_wp2
        go_ret
        rw [hE.out]
        exact ⟨rfl, HB.out⟩
      have h64' : ¬ (64 : Int) < l.length := by omega
      have hc1 := Lib.hid (rising_any _ (l.map Lk.lba) wr noM (hO'.out.sl (fun b _ h => h)) (by simp; omega))
      cases hr : ris (l.map Lk.lba) with
      | false =>
        have hE := Lib.hid (show errL (okL l) = 1 by simp [errL, okL, hr])
        rw [hr] at hc1
        clear hr
        go_wp2_with (go_at_call 32; go_must (refine hc1.out.mono ?_); rintro e w' ⟨rfl, rfl⟩)
        go_ret
        rw [hE.out]
        exact ⟨rfl, HB.out⟩
      | true =>
        have hE := Lib.hid (show errL (okL l) = errL (l.all oneL) by simp [okL, hr, show l.length ≤ 64 by omega])
        rw [hr] at hc1
        clear hr
        have hc2 := Lib.hid (cfL_any (.slice a l.length c) l wr M (H.out.mono (Keep.below HB.out)) (by omega) HBL.out)
        cases ha : l.all oneL with
        | false =>
          rw [ha] at hc2 hE
          clear ha
          go_wp2_with (first | (go_at_call 32; go_must (refine hc1.out.mono ?_); rintro e w' ⟨rfl, rfl⟩) | (go_at_call 33; go_must (refine hc2.out.mono ?_); rintro e w' ⟨rfl, hB2⟩))
          go_ret
          rw [hE.out]
          exact ⟨rfl, HB.out.trans (hB2.mono HB.out.size)⟩
        | true =>
          rw [ha] at hc2 hE
          clear ha
          go_wp2_with (first | (go_at_call 32; go_must (refine hc1.out.mono ?_); rintro e w' ⟨rfl, rfl⟩) | (go_at_call 33; go_must (refine hc2.out.mono ?_); rintro e w' ⟨rfl, hB2⟩))
          go_ret
          rw [hE.out]
          exact ⟨rfl, HB.out.trans (hB2.mono HB.out.size)⟩
end Go.Proofs.Ytombdkdidnoomaa
