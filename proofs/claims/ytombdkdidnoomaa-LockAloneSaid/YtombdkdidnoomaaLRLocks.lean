/-
The reference tells whether locks are right.
-/
import Derived.Test.YtombdkdidnoomaaLRef
import Derived.Test.YtombdkdidnoomaaLOne
namespace Go.Proofs.Ytombdkdidnoomaa
open Go.RowKit
attribute [local go_sem ↓] Go.wp_at_zero Go.wp_at_succ

/-- The first k locks are right. -/
def okP (l : List Lk) (k : Nat) : Bool := ris ((l.map Lk.lba).take k) && (l.take k).all oneL
theorem okP_all {l : List Lk} (h : l.length ≤ 64) : okP l l.length = okL l := by
  unfold okP okL
  rw [List.take_of_length_le (by simp), List.take_of_length_le (Nat.le_refl _), decide_eq_true h, Bool.true_and]
theorem okL_one {l : List Lk} {k : Nat} (hk : k < l.length) (h : oneL l[k] = false) : okL l = false := by
  have : l.all oneL = false := by rw [List.all_eq_false]; exact ⟨_, List.getElem_mem hk, by simp [h]⟩
  simp [okL, this]
theorem okL_ris {l : List Lk} (h : ris (l.map Lk.lba) = false) : okL l = false := by simp [okL, h]
theorem okL_lba0 {l : List Lk} (h0 : 0 < l.length) (h : l[0].lba < 0) : okL l = false := by
  refine okL_ris (ris_stop (k := 1) ?_)
  rw [ris_take0 (by simpa using h0), decide_eq_false_iff_not]
  simp; omega
theorem okL_lbaS {l : List Lk} {j : Nat} (hj : j + 1 < l.length) (h : l[j + 1].lba ≤ l[j].lba) : okL l = false := by
  refine okL_ris (ris_stop (k := j + 2) ?_)
  rw [ris_takeS (by simpa using hj), Bool.and_eq_false_iff]; right
  rw [decide_eq_false_iff_not]; simp; omega
theorem okP_pos {l : List Lk} {j : Nat} (h : okP l (j + 1) = true) (hj : j < l.length) : 0 ≤ l[j].lba := by
  unfold okP at h; rw [Bool.and_eq_true] at h
  have := ris_pos h.1 (i := j) (by omega) (by simpa using hj)
  simpa using this
theorem all_snoc {l : List Lk} {k : Nat} (hk : k < l.length) : (l.take (k + 1)).all oneL = ((l.take k).all oneL && oneL l[k]) := by
  have e : l.take (k + 1) = l.take k ++ [l[k]] := by rw [List.take_add_one, List.getElem?_eq_getElem hk]; rfl
  rw [e, List.all_append]; simp
theorem okP_one0 {l : List Lk} (h0 : 0 < l.length) (h : ¬ l[0].lba < 0) (h1 : oneL l[0] = true) : okP l 1 = true := by
  unfold okP
  rw [all_snoc h0, h1, ris_take0 (by simpa using h0)]
  simp; omega
theorem okP_oneS {l : List Lk} {j : Nat} (hj : j + 1 < l.length) (hp : okP l (j + 1) = true) (h : ¬ l[j + 1].lba ≤ l[j].lba) (h1 : oneL l[j + 1] = true) : okP l (j + 2) = true := by
  unfold okP at hp ⊢
  rw [Bool.and_eq_true] at hp
  rw [all_snoc hj, hp.2, h1, ris_takeS (by simpa using hj), hp.1]
  simp; omega

theorem oneL_w {x : Lk} (h : x.writer < -1) : oneL x = false := by
  unfold oneL
  rw [decide_eq_false (show ¬ -1 ≤ x.writer by omega)]
  simp
theorem oneL_mid {x : Lk} (hr : ris x.reads = true) (h8 : ¬ 8 < x.reads.length) (h : ¬ x.writer < -1) : oneL x = (decide (0 < x.reads.length) != (x.writer != -1)) := by
  unfold oneL
  rw [decide_eq_true (show x.reads.length ≤ 8 by omega), hr, decide_eq_true (show -1 ≤ x.writer by omega)]
  rfl
theorem mx1 {n : Nat} {w : Int} (h : n = 0) (hw : w = -1) : (decide (0 < n) != (w != -1)) = false := by subst h hw; rfl
theorem mx2 {n : Nat} {w : Int} (h : ¬ n = 0) (hw : w = -1) : (decide (0 < n) != (w != -1)) = true := by
  subst hw; rw [decide_eq_true (show 0 < n by omega)]; rfl
theorem mx3 {n : Nat} {w : Int} (h : 0 < n) (hw : 0 ≤ w) : (decide (0 < n) != (w != -1)) = false := by
  rw [decide_eq_true h, bne_iff_ne.2 (show w ≠ -1 by omega)]; rfl
theorem mx4 {n : Nat} {w : Int} (h : ¬ 0 < n) (hw : 0 ≤ w) : (decide (0 < n) != (w != -1)) = true := by
  rw [decide_eq_false h, bne_iff_ne.2 (show w ≠ -1 by omega)]; rfl

set_option maxHeartbeats 16000000 in
theorem rlocks_any (v : Value) (l : List Lk) (w : World) (M : Ms) (h : SlR w M v l) (hl : l.length ≤ 1000000000) (hb : ∀ x ∈ l, x.reads.length ≤ 1000000000) :
    Calls Try.prog 12 #[v] w fun e w' => e = .returned (.bool (okL l)) ∧ Below w.heap.size w w' := by
  obtain ⟨a, c, rfl⟩ := h.form
  by_cases h64 : 64 < l.length
  · have hE := Lib.hid (show okL l = false by simp [okL, show ¬ l.length ≤ 64 by omega])
    have h64' : (64 : Int) < l.length := by omega
    clear h
    go_enter Try.func12, Try.ntmps12
    go_wp2
    go_ret
    rw [hE.out]
    exact ⟨rfl, Below.refl _ _⟩
  have h64' : ¬ (64 : Int) < l.length := by omega
  have H64 := Lib.hid (show l.length ≤ 64 by omega)
  have H := Lib.hid h
  have HB0 := Lib.hid hb
  clear h hb h64
  go_enter Try.func12, Try.ntmps12
  go_wp2
  clear h64'
  go_loopw [3] (fun i wr => Below w.heap.size w wr ∧ ∃ k : Nat, k ≤ l.length ∧ i = .int .i64 k ∧ Hid (okP l k = true)) (fun i _ => l.length - (intOf i).toNat)
  case atStart => exact ⟨Below.refl _ _, 0, Nat.zero_le _, rfl, Lib.hid rfl⟩
  case round =>
    obtain ⟨hB, k, hk, rfl, hR⟩ := hrel
    have HB := Lib.hid hB
    by_cases hlt : k < l.length
    · obtain ⟨b, o, A, C, rfl, -, x1, y1, z1, s1⟩ := lk_at (H.out.mono (Keep.below hB)) hlt
      have hlt' : (k : Int) < l.length := by omega
      have hrl := Lib.hid (HB0.out _ (List.getElem_mem hlt))
      have hlk : l[k].reads.length ≤ 1000000000 := hrl.out
      have hbx := (Below.refl wr.heap.size wr).alloc (Nat.le_refl _) (.cells #[.int .i64 l[k].lba, .slice A l[k].reads.length C, .int .i64 l[k].writer] 39)
      have hblk := Blk.new wr 39 #[.int .i64 l[k].lba, .slice A l[k].reads.length C, .int .i64 l[k].writer]
      have HZ := Lib.hid (s1.mono (Keep.below hbx.drew))
      have HD := Lib.hid (HB.out.trans (hbx.drew.mono HB.out.size))
      have c0 := hblk.cell 0
      have c1 := hblk.cell 1
      have c2 := hblk.cell 2
      cases k with
      | zero =>
        rw [Nat.zero_mul, Nat.add_zero] at x1
        rw [Nat.zero_mul, Nat.add_zero] at y1 z1
        have hS := Lib.hid (show (wr.alloc (.cells #[.int .i64 l[0].lba, .slice A l[0].reads.length C, .int .i64 l[0].writer] 39)).drew.cell? ⟨wr.heap.size, 0, none⟩ = some (.int .i64 l[0].lba) ∧ (wr.alloc (.cells #[.int .i64 l[0].lba, .slice A l[0].reads.length C, .int .i64 l[0].writer] 39)).drew.cell? ⟨wr.heap.size, 1, none⟩ = some (.slice A l[0].reads.length C) ∧ (wr.alloc (.cells #[.int .i64 l[0].lba, .slice A l[0].reads.length C, .int .i64 l[0].writer] 39)).drew.cell? ⟨wr.heap.size, 2, none⟩ = some (.int .i64 l[0].writer) from ⟨c0, c1, c2⟩)
        clear hB HB hbx hblk c0 c1 c2 s1 
        go_wp2_with fail
        clear x1 y1 z1
        refine rp_enter [1, 8, 14, 20, 26, 32, 37, 41, 48, 52] (fun w' => w'.cell? ⟨wr.heap.size, 0, none⟩ = some (.int .i64 l[0].lba) ∧ w'.cell? ⟨wr.heap.size, 1, none⟩ = some (.slice A l[0].reads.length C) ∧ w'.cell? ⟨wr.heap.size, 2, none⟩ = some (.int .i64 l[0].writer)) (by kernel_rfl) ?_
        generalize (wr.alloc (.cells #[.int .i64 l[0].lba, .slice A l[0].reads.length C, .int .i64 l[0].writer] 39)).drew = wd at *
        by_cases hneg : l[0].lba < 0
        · have hE := Lib.hid (okL_lba0 hlt hneg)
          apply rp_pure 0 rfl (by kernel_rfl) (fun _ _ _ h => h) rfl
          · (intro W; go_simp; try rfl)
          · (go_simp; try rfl)
          apply rp_take 1 rfl (by kernel_rfl) (fun _ _ _ h => h) (hS.out) rfl
          · (rintro W ⟨s0, s1, s2⟩; go_simp; try rfl)
          · (go_simp; try rfl)
          apply rp_pure 2 rfl (by kernel_rfl) (fun _ _ _ h => h) rfl
          · (intro W; go_simp; try rfl)
          · (go_simp; try rfl)
          apply rp_pure 3 rfl (by kernel_rfl) (fun _ _ _ h => h) rfl
          · (intro W; go_simp; try rfl)
          · (go_simp; try rfl)
          apply rp_skip 4 rfl (by kernel_rfl) (fun _ _ _ h => h) rfl
          · (go_simp; try rfl)
          apply rp_skip 5 rfl (by kernel_rfl) (fun _ _ _ h => h) rfl
          · (go_simp; try rfl)
          apply rp_skip 6 rfl (by kernel_rfl) (fun _ _ _ h => h) rfl
          · (go_simp; try rfl)
          apply rp_skip 7 rfl (by kernel_rfl) (fun _ _ _ h => h) rfl
          · (go_simp; try rfl)
          apply rp_skip 8 rfl (by kernel_rfl) (fun _ _ _ h => h) rfl
          · (go_simp; try rfl)
          apply rp_skip 9 rfl (by kernel_rfl) (fun _ _ _ h => h) rfl
          · (go_simp; try rfl)
          apply rp_skip 10 rfl (by kernel_rfl) (fun _ _ _ h => h) rfl
          · (go_simp; try rfl)
          apply rp_skip 11 rfl (by kernel_rfl) (fun _ _ _ h => h) rfl
          · (go_simp; try rfl)
          apply rp_skip 12 rfl (by kernel_rfl) (fun _ _ _ h => h) rfl
          · (go_simp; try rfl)
          apply rp_skip 13 rfl (by kernel_rfl) (fun _ _ _ h => h) rfl
          · (go_simp; try rfl)
          apply rp_skip 14 rfl (by kernel_rfl) (fun _ _ _ h => h) rfl
          · (go_simp; try rfl)
          apply rp_skip 15 rfl (by kernel_rfl) (fun _ _ _ h => h) rfl
          · (go_simp; try rfl)
          apply rp_skip 16 rfl (by kernel_rfl) (fun _ _ _ h => h) rfl
          · (go_simp; try rfl)
          apply rp_pure 17 rfl (by kernel_rfl) (fun _ _ _ h => h) rfl
          · (intro W; go_simp; try rfl)
          · (go_simp; try rfl)
          apply rp_pure 18 rfl (by kernel_rfl) (fun _ _ _ h => h) rfl
          · (intro W; go_simp; try rfl)
          · (go_simp; try rfl)
          apply rp_skip 19 rfl (by kernel_rfl) (fun _ _ _ h => h) rfl
          · (go_simp; try rfl)
          apply rp_skip 20 rfl (by kernel_rfl) (fun _ _ _ h => h) rfl
          · (go_simp; try rfl)
          apply rp_skip 21 rfl (by kernel_rfl) (fun _ _ _ h => h) rfl
          · (go_simp; try rfl)
          apply rp_skip 22 rfl (by kernel_rfl) (fun _ _ _ h => h) rfl
          · (go_simp; try rfl)
          apply rp_pure 23 rfl (by kernel_rfl) (fun _ _ _ h => h) rfl
          · (intro W; go_simp; try rfl)
          · (go_simp; try rfl)
          apply rp_pure 24 rfl (by kernel_rfl) (fun _ _ _ h => h) rfl
          · (intro W; go_simp; try rfl)
          · (go_simp; try rfl)
          apply rp_skip 25 rfl (by kernel_rfl) (fun _ _ _ h => h) rfl
          · (go_simp; try rfl)
          apply rp_skip 26 rfl (by kernel_rfl) (fun _ _ _ h => h) rfl
          · (go_simp; try rfl)
          apply rp_skip 27 rfl (by kernel_rfl) (fun _ _ _ h => h) rfl
          · (go_simp; try rfl)
          apply rp_skip 28 rfl (by kernel_rfl) (fun _ _ _ h => h) rfl
          · (go_simp; try rfl)
          apply rp_pure 29 rfl (by kernel_rfl) (fun _ _ _ h => h) rfl
          · (intro W; go_simp; try rfl)
          · (go_simp; try rfl)
          apply rp_pure 30 rfl (by kernel_rfl) (fun _ _ _ h => h) rfl
          · (intro W; go_simp; try rfl)
          · (go_simp; try rfl)
          apply rp_skip 31 rfl (by kernel_rfl) (fun _ _ _ h => h) rfl
          · (go_simp; try rfl)
          apply rp_skip 32 rfl (by kernel_rfl) (fun _ _ _ h => h) rfl
          · (go_simp; try rfl)
          apply rp_skip 33 rfl (by kernel_rfl) (fun _ _ _ h => h) rfl
          · (go_simp; try rfl)
          apply rp_pure 34 rfl (by kernel_rfl) (fun _ _ _ h => h) rfl
          · (intro W; go_simp; try rfl)
          · (go_simp; try rfl)
          apply rp_pure 35 rfl (by kernel_rfl) (fun _ _ _ h => h) rfl
          · (intro W; go_simp; try rfl)
          · (go_simp; try rfl)
          apply rp_skip 36 rfl (by kernel_rfl) (fun _ _ _ h => h) rfl
          · (go_simp; try rfl)
          apply rp_skip 37 rfl (by kernel_rfl) (fun _ _ _ h => h) rfl
          · (go_simp; try rfl)
          apply rp_skip 38 rfl (by kernel_rfl) (fun _ _ _ h => h) rfl
          · (go_simp; try rfl)
          apply rp_skip 39 rfl (by kernel_rfl) (fun _ _ _ h => h) rfl
          · (go_simp; try rfl)
          apply rp_skip 40 rfl (by kernel_rfl) (fun _ _ _ h => h) rfl
          · (go_simp; try rfl)
          apply rp_skip 41 rfl (by kernel_rfl) (fun _ _ _ h => h) rfl
          · (go_simp; try rfl)
          apply rp_skip 42 rfl (by kernel_rfl) (fun _ _ _ h => h) rfl
          · (go_simp; try rfl)
          apply rp_skip 43 rfl (by kernel_rfl) (fun _ _ _ h => h) rfl
          · (go_simp; try rfl)
          apply rp_skip 44 rfl (by kernel_rfl) (fun _ _ _ h => h) rfl
          · (go_simp; try rfl)
          apply rp_pure 45 rfl (by kernel_rfl) (fun _ _ _ h => h) rfl
          · (intro W; go_simp; try rfl)
          · (go_simp; try rfl)
          apply rp_pure 46 rfl (by kernel_rfl) (fun _ _ _ h => h) rfl
          · (intro W; go_simp; try rfl)
          · (go_simp; try rfl)
          apply rp_skip 47 rfl (by kernel_rfl) (fun _ _ _ h => h) rfl
          · (go_simp; try rfl)
          apply rp_skip 48 rfl (by kernel_rfl) (fun _ _ _ h => h) rfl
          · (go_simp; try rfl)
          apply rp_skip 49 rfl (by kernel_rfl) (fun _ _ _ h => h) rfl
          · (go_simp; try rfl)
          apply rp_skip 50 rfl (by kernel_rfl) (fun _ _ _ h => h) rfl
          · (go_simp; try rfl)
          apply rp_skip 51 rfl (by kernel_rfl) (fun _ _ _ h => h) rfl
          · (go_simp; try rfl)
          apply rp_skip 52 rfl (by kernel_rfl) (fun _ _ _ h => h) rfl
          · (go_simp; try rfl)
          apply rp_skip 53 rfl (by kernel_rfl) (fun _ _ _ h => h) rfl
          · (go_simp; try rfl)
          apply rp_skip 54 rfl (by kernel_rfl) (fun _ _ _ h => h) rfl
          · (go_simp; try rfl)
          apply rp_skip 55 rfl (by kernel_rfl) (fun _ _ _ h => h) rfl
          · (go_simp; try rfl)
          apply rp_pure 56 rfl (by kernel_rfl) (fun _ _ _ h => h) rfl
          · (intro W; go_simp; try rfl)
          · (go_simp; try rfl)
          refine rp_done (by kernel_rfl) ?_
          go_wp2
          go_ret
          rw [hE.out]
          exact ⟨rfl, HD.out⟩
        apply rp_pure 0 rfl (by kernel_rfl) (fun _ _ _ h => h) rfl
        · (intro W; go_simp; try rfl)
        · (go_simp; try rfl)
        apply rp_take 1 rfl (by kernel_rfl) (fun _ _ _ h => h) (hS.out) rfl
        · (rintro W ⟨s0, s1, s2⟩; go_simp; try rfl)
        · (go_simp; try rfl)
        apply rp_pure 2 rfl (by kernel_rfl) (fun _ _ _ h => h) rfl
        · (intro W; go_simp; try rfl)
        · (go_simp; try rfl)
        apply rp_pure 3 rfl (by kernel_rfl) (fun _ _ _ h => h) rfl
        · (intro W; go_simp; try rfl)
        · (go_simp; try rfl)
        apply rp_pure 4 rfl (by kernel_rfl) (fun _ _ _ h => h) rfl
        · (intro W; go_simp; try rfl)
        · (go_simp; try rfl)
        apply rp_pure 5 rfl (by kernel_rfl) (fun _ _ _ h => h) rfl
        · (intro W; go_simp; try rfl)
        · (go_simp; try rfl)
        apply rp_pure 6 rfl (by kernel_rfl) (fun _ _ _ h => h) rfl
        · (intro W; go_simp; try rfl)
        · (go_simp; try rfl)
        apply rp_skip 7 rfl (by kernel_rfl) (fun _ _ _ h => h) rfl
        · (go_simp; try rfl)
        apply rp_skip 8 rfl (by kernel_rfl) (fun _ _ _ h => h) rfl
        · (go_simp; try rfl)
        apply rp_skip 9 rfl (by kernel_rfl) (fun _ _ _ h => h) rfl
        · (go_simp; try rfl)
        apply rp_skip 10 rfl (by kernel_rfl) (fun _ _ _ h => h) rfl
        · (go_simp; try rfl)
        apply rp_skip 11 rfl (by kernel_rfl) (fun _ _ _ h => h) rfl
        · (go_simp; try rfl)
        apply rp_skip 12 rfl (by kernel_rfl) (fun _ _ _ h => h) rfl
        · (go_simp; try rfl)
        apply rp_skip 13 rfl (by kernel_rfl) (fun _ _ _ h => h) rfl
        · (go_simp; try rfl)
        apply rp_skip 14 rfl (by kernel_rfl) (fun _ _ _ h => h) rfl
        · (go_simp; try rfl)
        apply rp_skip 15 rfl (by kernel_rfl) (fun _ _ _ h => h) rfl
        · (go_simp; try rfl)
        apply rp_pure 16 rfl (by kernel_rfl) (fun _ _ _ h => h) rfl
        · (intro W; go_simp; try rfl)
        · (go_simp; try rfl)
        apply rp_pure 17 rfl (by kernel_rfl) (fun _ _ _ h => h) rfl
        · (intro W; go_simp; try rfl)
        · (go_simp; try rfl)
        apply rp_pure 18 rfl (by kernel_rfl) (fun _ _ _ h => h) rfl
        · (intro W; go_simp; try rfl)
        · (go_simp; try rfl)
        apply rp_pure 19 rfl (by kernel_rfl) (fun _ _ _ h => h) rfl
        · (intro W; go_simp; try rfl)
        · (go_simp; try rfl)
        apply rp_take 20 rfl (by kernel_rfl) (fun _ _ _ h => h) (hS.out) rfl
        · (rintro W ⟨s0, s1, s2⟩; go_simp; try rfl)
        · (go_simp; try rfl)
        refine rp_only 21 (by kernel_rfl) rfl (fun K hK => ?_)
        go_simp
        ((with_reducible refine (rrising_any _ l[0].reads wd _ HZ.out hrl.out).mono ?_))
        rintro q w2 ⟨rfl, hB2⟩
        have hS2 := Lib.hid (show w2.cell? ⟨wr.heap.size, 0, none⟩ = some (.int .i64 l[0].lba) ∧ w2.cell? ⟨wr.heap.size, 1, none⟩ = some (.slice A l[0].reads.length C) ∧ w2.cell? ⟨wr.heap.size, 2, none⟩ = some (.int .i64 l[0].writer) from ⟨below_cell hB2 hS.out.1, below_cell hB2 hS.out.2.1, below_cell hB2 hS.out.2.2⟩)
        have HD2 := Lib.hid (HD.out.trans (hB2.mono HD.out.size))
        refine hK _ _ ⟨fun _ _ => hS2.out, ?_⟩; clear hK K hB2 hS HD HZ
        cases hr : ris l[0].reads with
        | false =>
          have hE := Lib.hid (okL_one hlt (show oneL l[0] = false by simp [oneL, hr]))
          apply rp_pure 22 rfl (by kernel_rfl) (fun _ _ _ h => h) rfl
          · (intro W; go_simp; try rfl)
          · (go_simp; try rfl)
          apply rp_pure 23 rfl (by kernel_rfl) (fun _ _ _ h => h) rfl
          · (intro W; go_simp; try rfl)
          · (go_simp; try rfl)
          apply rp_pure 24 rfl (by kernel_rfl) (fun _ _ _ h => h) rfl
          · (intro W; go_simp; try rfl)
          · (go_simp; try rfl)
          apply rp_skip 25 rfl (by kernel_rfl) (fun _ _ _ h => h) rfl
          · (go_simp; try rfl)
          apply rp_skip 26 rfl (by kernel_rfl) (fun _ _ _ h => h) rfl
          · (go_simp; try rfl)
          apply rp_skip 27 rfl (by kernel_rfl) (fun _ _ _ h => h) rfl
          · (go_simp; try rfl)
          apply rp_skip 28 rfl (by kernel_rfl) (fun _ _ _ h => h) rfl
          · (go_simp; try rfl)
          apply rp_pure 29 rfl (by kernel_rfl) (fun _ _ _ h => h) rfl
          · (intro W; go_simp; try rfl)
          · (go_simp; try rfl)
          apply rp_pure 30 rfl (by kernel_rfl) (fun _ _ _ h => h) rfl
          · (intro W; go_simp; try rfl)
          · (go_simp; try rfl)
          apply rp_skip 31 rfl (by kernel_rfl) (fun _ _ _ h => h) rfl
          · (go_simp; try rfl)
          apply rp_skip 32 rfl (by kernel_rfl) (fun _ _ _ h => h) rfl
          · (go_simp; try rfl)
          apply rp_skip 33 rfl (by kernel_rfl) (fun _ _ _ h => h) rfl
          · (go_simp; try rfl)
          apply rp_pure 34 rfl (by kernel_rfl) (fun _ _ _ h => h) rfl
          · (intro W; go_simp; try rfl)
          · (go_simp; try rfl)
          apply rp_pure 35 rfl (by kernel_rfl) (fun _ _ _ h => h) rfl
          · (intro W; go_simp; try rfl)
          · (go_simp; try rfl)
          apply rp_skip 36 rfl (by kernel_rfl) (fun _ _ _ h => h) rfl
          · (go_simp; try rfl)
          apply rp_skip 37 rfl (by kernel_rfl) (fun _ _ _ h => h) rfl
          · (go_simp; try rfl)
          apply rp_skip 38 rfl (by kernel_rfl) (fun _ _ _ h => h) rfl
          · (go_simp; try rfl)
          apply rp_skip 39 rfl (by kernel_rfl) (fun _ _ _ h => h) rfl
          · (go_simp; try rfl)
          apply rp_skip 40 rfl (by kernel_rfl) (fun _ _ _ h => h) rfl
          · (go_simp; try rfl)
          apply rp_skip 41 rfl (by kernel_rfl) (fun _ _ _ h => h) rfl
          · (go_simp; try rfl)
          apply rp_skip 42 rfl (by kernel_rfl) (fun _ _ _ h => h) rfl
          · (go_simp; try rfl)
          apply rp_skip 43 rfl (by kernel_rfl) (fun _ _ _ h => h) rfl
          · (go_simp; try rfl)
          apply rp_skip 44 rfl (by kernel_rfl) (fun _ _ _ h => h) rfl
          · (go_simp; try rfl)
          apply rp_pure 45 rfl (by kernel_rfl) (fun _ _ _ h => h) rfl
          · (intro W; go_simp; try rfl)
          · (go_simp; try rfl)
          apply rp_pure 46 rfl (by kernel_rfl) (fun _ _ _ h => h) rfl
          · (intro W; go_simp; try rfl)
          · (go_simp; try rfl)
          apply rp_skip 47 rfl (by kernel_rfl) (fun _ _ _ h => h) rfl
          · (go_simp; try rfl)
          apply rp_skip 48 rfl (by kernel_rfl) (fun _ _ _ h => h) rfl
          · (go_simp; try rfl)
          apply rp_skip 49 rfl (by kernel_rfl) (fun _ _ _ h => h) rfl
          · (go_simp; try rfl)
          apply rp_skip 50 rfl (by kernel_rfl) (fun _ _ _ h => h) rfl
          · (go_simp; try rfl)
          apply rp_skip 51 rfl (by kernel_rfl) (fun _ _ _ h => h) rfl
          · (go_simp; try rfl)
          apply rp_skip 52 rfl (by kernel_rfl) (fun _ _ _ h => h) rfl
          · (go_simp; try rfl)
          apply rp_skip 53 rfl (by kernel_rfl) (fun _ _ _ h => h) rfl
          · (go_simp; try rfl)
          apply rp_skip 54 rfl (by kernel_rfl) (fun _ _ _ h => h) rfl
          · (go_simp; try rfl)
          apply rp_skip 55 rfl (by kernel_rfl) (fun _ _ _ h => h) rfl
          · (go_simp; try rfl)
          apply rp_pure 56 rfl (by kernel_rfl) (fun _ _ _ h => h) rfl
          · (intro W; go_simp; try rfl)
          · (go_simp; try rfl)
          refine rp_done (by kernel_rfl) ?_
          go_wp2
          go_ret
          rw [hE.out]
          exact ⟨rfl, HD2.out⟩
        | true =>
          have Hr := Lib.hid hr
          by_cases h8 : 8 < l[0].reads.length
          · have hE := Lib.hid (okL_one hlt (show oneL l[0] = false by simp [oneL, show ¬ l[0].reads.length ≤ 8 by omega]))
            have h8' : (8 : Int) < l[0].reads.length := by omega
            apply rp_pure 22 rfl (by kernel_rfl) (fun _ _ _ h => h) rfl
            · (intro W; go_simp; try rfl)
            · (go_simp; try rfl)
            apply rp_pure 23 rfl (by kernel_rfl) (fun _ _ _ h => h) rfl
            · (intro W; go_simp; try rfl)
            · (go_simp; try rfl)
            apply rp_pure 24 rfl (by kernel_rfl) (fun _ _ _ h => h) rfl
            · (intro W; go_simp; try rfl)
            · (go_simp; try rfl)
            apply rp_pure 25 rfl (by kernel_rfl) (fun _ _ _ h => h) rfl
            · (intro W; go_simp; try rfl)
            · (go_simp; try rfl)
            apply rp_take 26 rfl (by kernel_rfl) (fun _ _ _ h => h) (hS2.out) rfl
            · (rintro W ⟨s0, s1, s2⟩; go_simp; try rfl)
            · (go_simp; try rfl)
            apply rp_pure 27 rfl (by kernel_rfl) (fun _ _ _ h => h) rfl
            · (intro W; go_simp; try rfl)
            · (go_simp; try rfl)
            apply rp_pure 28 rfl (by kernel_rfl) (fun _ _ _ h => h) rfl
            · (intro W; go_simp; try rfl)
            · (go_simp; try rfl)
            apply rp_pure 29 rfl (by kernel_rfl) (fun _ _ _ h => h) rfl
            · (intro W; go_simp; try rfl)
            · (go_simp; try rfl)
            apply rp_pure 30 rfl (by kernel_rfl) (fun _ _ _ h => h) rfl
            · (intro W; go_simp; try rfl)
            · (go_simp; try rfl)
            apply rp_skip 31 rfl (by kernel_rfl) (fun _ _ _ h => h) rfl
            · (go_simp; try rfl)
            apply rp_skip 32 rfl (by kernel_rfl) (fun _ _ _ h => h) rfl
            · (go_simp; try rfl)
            apply rp_skip 33 rfl (by kernel_rfl) (fun _ _ _ h => h) rfl
            · (go_simp; try rfl)
            apply rp_pure 34 rfl (by kernel_rfl) (fun _ _ _ h => h) rfl
            · (intro W; go_simp; try rfl)
            · (go_simp; try rfl)
            apply rp_pure 35 rfl (by kernel_rfl) (fun _ _ _ h => h) rfl
            · (intro W; go_simp; try rfl)
            · (go_simp; try rfl)
            apply rp_skip 36 rfl (by kernel_rfl) (fun _ _ _ h => h) rfl
            · (go_simp; try rfl)
            apply rp_skip 37 rfl (by kernel_rfl) (fun _ _ _ h => h) rfl
            · (go_simp; try rfl)
            apply rp_skip 38 rfl (by kernel_rfl) (fun _ _ _ h => h) rfl
            · (go_simp; try rfl)
            apply rp_skip 39 rfl (by kernel_rfl) (fun _ _ _ h => h) rfl
            · (go_simp; try rfl)
            apply rp_skip 40 rfl (by kernel_rfl) (fun _ _ _ h => h) rfl
            · (go_simp; try rfl)
            apply rp_skip 41 rfl (by kernel_rfl) (fun _ _ _ h => h) rfl
            · (go_simp; try rfl)
            apply rp_skip 42 rfl (by kernel_rfl) (fun _ _ _ h => h) rfl
            · (go_simp; try rfl)
            apply rp_skip 43 rfl (by kernel_rfl) (fun _ _ _ h => h) rfl
            · (go_simp; try rfl)
            apply rp_skip 44 rfl (by kernel_rfl) (fun _ _ _ h => h) rfl
            · (go_simp; try rfl)
            apply rp_pure 45 rfl (by kernel_rfl) (fun _ _ _ h => h) rfl
            · (intro W; go_simp; try rfl)
            · (go_simp; try rfl)
            apply rp_pure 46 rfl (by kernel_rfl) (fun _ _ _ h => h) rfl
            · (intro W; go_simp; try rfl)
            · (go_simp; try rfl)
            apply rp_skip 47 rfl (by kernel_rfl) (fun _ _ _ h => h) rfl
            · (go_simp; try rfl)
            apply rp_skip 48 rfl (by kernel_rfl) (fun _ _ _ h => h) rfl
            · (go_simp; try rfl)
            apply rp_skip 49 rfl (by kernel_rfl) (fun _ _ _ h => h) rfl
            · (go_simp; try rfl)
            apply rp_skip 50 rfl (by kernel_rfl) (fun _ _ _ h => h) rfl
            · (go_simp; try rfl)
            apply rp_skip 51 rfl (by kernel_rfl) (fun _ _ _ h => h) rfl
            · (go_simp; try rfl)
            apply rp_skip 52 rfl (by kernel_rfl) (fun _ _ _ h => h) rfl
            · (go_simp; try rfl)
            apply rp_skip 53 rfl (by kernel_rfl) (fun _ _ _ h => h) rfl
            · (go_simp; try rfl)
            apply rp_skip 54 rfl (by kernel_rfl) (fun _ _ _ h => h) rfl
            · (go_simp; try rfl)
            apply rp_skip 55 rfl (by kernel_rfl) (fun _ _ _ h => h) rfl
            · (go_simp; try rfl)
            apply rp_pure 56 rfl (by kernel_rfl) (fun _ _ _ h => h) rfl
            · (intro W; go_simp; try rfl)
            · (go_simp; try rfl)
            refine rp_done (by kernel_rfl) ?_
            go_wp2
            go_ret
            rw [hE.out]
            exact ⟨rfl, HD2.out⟩
          have h8' : ¬ (8 : Int) < l[0].reads.length := by omega
          by_cases h1 : l[0].writer < -1
          · have hE := Lib.hid (okL_one hlt (oneL_w h1))
            apply rp_pure 22 rfl (by kernel_rfl) (fun _ _ _ h => h) rfl
            · (intro W; go_simp; try rfl)
            · (go_simp; try rfl)
            apply rp_pure 23 rfl (by kernel_rfl) (fun _ _ _ h => h) rfl
            · (intro W; go_simp; try rfl)
            · (go_simp; try rfl)
            apply rp_pure 24 rfl (by kernel_rfl) (fun _ _ _ h => h) rfl
            · (intro W; go_simp; try rfl)
            · (go_simp; try rfl)
            apply rp_pure 25 rfl (by kernel_rfl) (fun _ _ _ h => h) rfl
            · (intro W; go_simp; try rfl)
            · (go_simp; try rfl)
            apply rp_take 26 rfl (by kernel_rfl) (fun _ _ _ h => h) (hS2.out) rfl
            · (rintro W ⟨s0, s1, s2⟩; go_simp; try rfl)
            · (go_simp; try rfl)
            apply rp_pure 27 rfl (by kernel_rfl) (fun _ _ _ h => h) rfl
            · (intro W; go_simp; try rfl)
            · (go_simp; try rfl)
            apply rp_pure 28 rfl (by kernel_rfl) (fun _ _ _ h => h) rfl
            · (intro W; go_simp; try rfl)
            · (go_simp; try rfl)
            apply rp_pure 29 rfl (by kernel_rfl) (fun _ _ _ h => h) rfl
            · (intro W; go_simp; try rfl)
            · (go_simp; try rfl)
            apply rp_pure 30 rfl (by kernel_rfl) (fun _ _ _ h => h) rfl
            · (intro W; go_simp; try rfl)
            · (go_simp; try rfl)
            apply rp_pure 31 rfl (by kernel_rfl) (fun _ _ _ h => h) rfl
            · (intro W; go_simp; try rfl)
            · (go_simp; try rfl)
            apply rp_take 32 rfl (by kernel_rfl) (fun _ _ _ h => h) (hS2.out) rfl
            · (rintro W ⟨s0, s1, s2⟩; go_simp; try rfl)
            · (go_simp; try rfl)
            apply rp_pure 33 rfl (by kernel_rfl) (fun _ _ _ h => h) rfl
            · (intro W; go_simp; try rfl)
            · (go_simp; try rfl)
            apply rp_pure 34 rfl (by kernel_rfl) (fun _ _ _ h => h) rfl
            · (intro W; go_simp; try rfl)
            · (go_simp; try rfl)
            apply rp_pure 35 rfl (by kernel_rfl) (fun _ _ _ h => h) rfl
            · (intro W; go_simp; try rfl)
            · (go_simp; try rfl)
            apply rp_skip 36 rfl (by kernel_rfl) (fun _ _ _ h => h) rfl
            · (go_simp; try rfl)
            apply rp_skip 37 rfl (by kernel_rfl) (fun _ _ _ h => h) rfl
            · (go_simp; try rfl)
            apply rp_skip 38 rfl (by kernel_rfl) (fun _ _ _ h => h) rfl
            · (go_simp; try rfl)
            apply rp_skip 39 rfl (by kernel_rfl) (fun _ _ _ h => h) rfl
            · (go_simp; try rfl)
            apply rp_skip 40 rfl (by kernel_rfl) (fun _ _ _ h => h) rfl
            · (go_simp; try rfl)
            apply rp_skip 41 rfl (by kernel_rfl) (fun _ _ _ h => h) rfl
            · (go_simp; try rfl)
            apply rp_skip 42 rfl (by kernel_rfl) (fun _ _ _ h => h) rfl
            · (go_simp; try rfl)
            apply rp_skip 43 rfl (by kernel_rfl) (fun _ _ _ h => h) rfl
            · (go_simp; try rfl)
            apply rp_skip 44 rfl (by kernel_rfl) (fun _ _ _ h => h) rfl
            · (go_simp; try rfl)
            apply rp_pure 45 rfl (by kernel_rfl) (fun _ _ _ h => h) rfl
            · (intro W; go_simp; try rfl)
            · (go_simp; try rfl)
            apply rp_pure 46 rfl (by kernel_rfl) (fun _ _ _ h => h) rfl
            · (intro W; go_simp; try rfl)
            · (go_simp; try rfl)
            apply rp_skip 47 rfl (by kernel_rfl) (fun _ _ _ h => h) rfl
            · (go_simp; try rfl)
            apply rp_skip 48 rfl (by kernel_rfl) (fun _ _ _ h => h) rfl
            · (go_simp; try rfl)
            apply rp_skip 49 rfl (by kernel_rfl) (fun _ _ _ h => h) rfl
            · (go_simp; try rfl)
            apply rp_skip 50 rfl (by kernel_rfl) (fun _ _ _ h => h) rfl
            · (go_simp; try rfl)
            apply rp_skip 51 rfl (by kernel_rfl) (fun _ _ _ h => h) rfl
            · (go_simp; try rfl)
            apply rp_skip 52 rfl (by kernel_rfl) (fun _ _ _ h => h) rfl
            · (go_simp; try rfl)
            apply rp_skip 53 rfl (by kernel_rfl) (fun _ _ _ h => h) rfl
            · (go_simp; try rfl)
            apply rp_skip 54 rfl (by kernel_rfl) (fun _ _ _ h => h) rfl
            · (go_simp; try rfl)
            apply rp_skip 55 rfl (by kernel_rfl) (fun _ _ _ h => h) rfl
            · (go_simp; try rfl)
            apply rp_pure 56 rfl (by kernel_rfl) (fun _ _ _ h => h) rfl
            · (intro W; go_simp; try rfl)
            · (go_simp; try rfl)
            refine rp_done (by kernel_rfl) ?_
            go_wp2
            go_ret
            rw [hE.out]
            exact ⟨rfl, HD2.out⟩
          have e8 := Lib.hid (oneL_mid Hr.out h8 h1)
          by_cases h0 : l[0].writer < 0
          · by_cases hz : l[0].reads.length = 0
            · have hE := Lib.hid (okL_one hlt (show oneL l[0] = false by rw [e8.out]; exact mx1 hz (by omega)))
              have hz' : ((l[0].reads.length : Int) == 0) = true := by simp [hz]
              have Hz := Lib.hid hz; clear hz
              apply rp_pure 22 rfl (by kernel_rfl) (fun _ _ _ h => h) rfl
              · (intro W; go_simp; try rfl)
              · (go_simp; try rfl)
              apply rp_pure 23 rfl (by kernel_rfl) (fun _ _ _ h => h) rfl
              · (intro W; go_simp; try rfl)
              · (go_simp; try rfl)
              apply rp_pure 24 rfl (by kernel_rfl) (fun _ _ _ h => h) rfl
              · (intro W; go_simp; try rfl)
              · (go_simp; try rfl)
              apply rp_pure 25 rfl (by kernel_rfl) (fun _ _ _ h => h) rfl
              · (intro W; go_simp; try rfl)
              · (go_simp; try rfl)
              apply rp_take 26 rfl (by kernel_rfl) (fun _ _ _ h => h) (hS2.out) rfl
              · (rintro W ⟨s0, s1, s2⟩; go_simp; try rfl)
              · (go_simp; try rfl)
              apply rp_pure 27 rfl (by kernel_rfl) (fun _ _ _ h => h) rfl
              · (intro W; go_simp; try rfl)
              · (go_simp; try rfl)
              apply rp_pure 28 rfl (by kernel_rfl) (fun _ _ _ h => h) rfl
              · (intro W; go_simp; try rfl)
              · (go_simp; try rfl)
              apply rp_pure 29 rfl (by kernel_rfl) (fun _ _ _ h => h) rfl
              · (intro W; go_simp; try rfl)
              · (go_simp; try rfl)
              apply rp_pure 30 rfl (by kernel_rfl) (fun _ _ _ h => h) rfl
              · (intro W; go_simp; try rfl)
              · (go_simp; try rfl)
              apply rp_pure 31 rfl (by kernel_rfl) (fun _ _ _ h => h) rfl
              · (intro W; go_simp; try rfl)
              · (go_simp; try rfl)
              apply rp_take 32 rfl (by kernel_rfl) (fun _ _ _ h => h) (hS2.out) rfl
              · (rintro W ⟨s0, s1, s2⟩; go_simp; try rfl)
              · (go_simp; try rfl)
              apply rp_pure 33 rfl (by kernel_rfl) (fun _ _ _ h => h) rfl
              · (intro W; go_simp; try rfl)
              · (go_simp; try rfl)
              apply rp_pure 34 rfl (by kernel_rfl) (fun _ _ _ h => h) rfl
              · (intro W; go_simp; try rfl)
              · (go_simp; try rfl)
              apply rp_pure 35 rfl (by kernel_rfl) (fun _ _ _ h => h) rfl
              · (intro W; go_simp; try rfl)
              · (go_simp; try rfl)
              apply rp_pure 36 rfl (by kernel_rfl) (fun _ _ _ h => h) rfl
              · (intro W; go_simp; try rfl)
              · (go_simp; try rfl)
              apply rp_take 37 rfl (by kernel_rfl) (fun _ _ _ h => h) (hS2.out) rfl
              · (rintro W ⟨s0, s1, s2⟩; go_simp; try rfl)
              · (go_simp; try rfl)
              apply rp_pure 38 rfl (by kernel_rfl) (fun _ _ _ h => h) rfl
              · (intro W; go_simp; try rfl)
              · (go_simp; try rfl)
              apply rp_pure 39 rfl (by kernel_rfl) (fun _ _ _ h => h) rfl
              · (intro W; go_simp; try rfl)
              · (go_simp; try rfl)
              apply rp_pure 40 rfl (by kernel_rfl) (fun _ _ _ h => h) rfl
              · (intro W; go_simp; try rfl)
              · (go_simp; try rfl)
              apply rp_take 41 rfl (by kernel_rfl) (fun _ _ _ h => h) (hS2.out) rfl
              · (rintro W ⟨s0, s1, s2⟩; go_simp; try rfl)
              · (go_simp; try rfl)
              apply rp_pure 42 rfl (by kernel_rfl) (fun _ _ _ h => h) rfl
              · (intro W; go_simp; try rfl)
              · (go_simp; try rfl)
              apply rp_pure 43 rfl (by kernel_rfl) (fun _ _ _ h => h) rfl
              · (intro W; go_simp; try rfl)
              · (go_simp; try rfl)
              apply rp_pure 44 rfl (by kernel_rfl) (fun _ _ _ h => h) rfl
              · (intro W; go_simp; try rfl)
              · (go_simp; try rfl)
              apply rp_pure 45 rfl (by kernel_rfl) (fun _ _ _ h => h) rfl
              · (intro W; go_simp; try rfl)
              · (go_simp; try rfl)
              apply rp_pure 46 rfl (by kernel_rfl) (fun _ _ _ h => h) rfl
              · (intro W; go_simp; try rfl)
              · (go_simp; try rfl)
              apply rp_skip 47 rfl (by kernel_rfl) (fun _ _ _ h => h) rfl
              · (go_simp; try rfl)
              apply rp_skip 48 rfl (by kernel_rfl) (fun _ _ _ h => h) rfl
              · (go_simp; try rfl)
              apply rp_skip 49 rfl (by kernel_rfl) (fun _ _ _ h => h) rfl
              · (go_simp; try rfl)
              apply rp_skip 50 rfl (by kernel_rfl) (fun _ _ _ h => h) rfl
              · (go_simp; try rfl)
              apply rp_skip 51 rfl (by kernel_rfl) (fun _ _ _ h => h) rfl
              · (go_simp; try rfl)
              apply rp_skip 52 rfl (by kernel_rfl) (fun _ _ _ h => h) rfl
              · (go_simp; try rfl)
              apply rp_skip 53 rfl (by kernel_rfl) (fun _ _ _ h => h) rfl
              · (go_simp; try rfl)
              apply rp_skip 54 rfl (by kernel_rfl) (fun _ _ _ h => h) rfl
              · (go_simp; try rfl)
              apply rp_skip 55 rfl (by kernel_rfl) (fun _ _ _ h => h) rfl
              · (go_simp; try rfl)
              apply rp_pure 56 rfl (by kernel_rfl) (fun _ _ _ h => h) rfl
              · (intro W; go_simp; try rfl)
              · (go_simp; try rfl)
              refine rp_done (by kernel_rfl) ?_
              go_wp2
              go_ret
              rw [hE.out]
              exact ⟨rfl, HD2.out⟩
            · have hE := Lib.hid (okP_one0 hlt hneg (show oneL l[0] = true by rw [e8.out]; exact mx2 hz (by omega)))
              have hz' : ((l[0].reads.length : Int) == 0) = false := by rw [beq_eq_false_iff_ne]; omega
              have hg0 : decide ((0 : Int) ≤ l[0].writer) = false := decide_eq_false (by omega)
              apply rp_pure 22 rfl (by kernel_rfl) (fun _ _ _ h => h) rfl
              · (intro W; go_simp; try rfl)
              · (go_simp; try rfl)
              apply rp_pure 23 rfl (by kernel_rfl) (fun _ _ _ h => h) rfl
              · (intro W; go_simp; try rfl)
              · (go_simp; try rfl)
              apply rp_pure 24 rfl (by kernel_rfl) (fun _ _ _ h => h) rfl
              · (intro W; go_simp; try rfl)
              · (go_simp; try rfl)
              apply rp_pure 25 rfl (by kernel_rfl) (fun _ _ _ h => h) rfl
              · (intro W; go_simp; try rfl)
              · (go_simp; try rfl)
              apply rp_take 26 rfl (by kernel_rfl) (fun _ _ _ h => h) (hS2.out) rfl
              · (rintro W ⟨s0, s1, s2⟩; go_simp; try rfl)
              · (go_simp; try rfl)
              apply rp_pure 27 rfl (by kernel_rfl) (fun _ _ _ h => h) rfl
              · (intro W; go_simp; try rfl)
              · (go_simp; try rfl)
              apply rp_pure 28 rfl (by kernel_rfl) (fun _ _ _ h => h) rfl
              · (intro W; go_simp; try rfl)
              · (go_simp; try rfl)
              apply rp_pure 29 rfl (by kernel_rfl) (fun _ _ _ h => h) rfl
              · (intro W; go_simp; try rfl)
              · (go_simp; try rfl)
              apply rp_pure 30 rfl (by kernel_rfl) (fun _ _ _ h => h) rfl
              · (intro W; go_simp; try rfl)
              · (go_simp; try rfl)
              apply rp_pure 31 rfl (by kernel_rfl) (fun _ _ _ h => h) rfl
              · (intro W; go_simp; try rfl)
              · (go_simp; try rfl)
              apply rp_take 32 rfl (by kernel_rfl) (fun _ _ _ h => h) (hS2.out) rfl
              · (rintro W ⟨s0, s1, s2⟩; go_simp; try rfl)
              · (go_simp; try rfl)
              apply rp_pure 33 rfl (by kernel_rfl) (fun _ _ _ h => h) rfl
              · (intro W; go_simp; try rfl)
              · (go_simp; try rfl)
              apply rp_pure 34 rfl (by kernel_rfl) (fun _ _ _ h => h) rfl
              · (intro W; go_simp; try rfl)
              · (go_simp; try rfl)
              apply rp_pure 35 rfl (by kernel_rfl) (fun _ _ _ h => h) rfl
              · (intro W; go_simp; try rfl)
              · (go_simp; try rfl)
              apply rp_pure 36 rfl (by kernel_rfl) (fun _ _ _ h => h) rfl
              · (intro W; go_simp; try rfl)
              · (go_simp; try rfl)
              apply rp_take 37 rfl (by kernel_rfl) (fun _ _ _ h => h) (hS2.out) rfl
              · (rintro W ⟨s0, s1, s2⟩; go_simp; try rfl)
              · (go_simp; try rfl)
              apply rp_pure 38 rfl (by kernel_rfl) (fun _ _ _ h => h) rfl
              · (intro W; go_simp; try rfl)
              · (go_simp; try rfl)
              apply rp_pure 39 rfl (by kernel_rfl) (fun _ _ _ h => h) rfl
              · (intro W; go_simp; try rfl)
              · (go_simp; try rfl)
              apply rp_pure 40 rfl (by kernel_rfl) (fun _ _ _ h => h) rfl
              · (intro W; go_simp; try rfl)
              · (go_simp; try rfl)
              apply rp_take 41 rfl (by kernel_rfl) (fun _ _ _ h => h) (hS2.out) rfl
              · (rintro W ⟨s0, s1, s2⟩; go_simp; try rfl)
              · (go_simp; try rfl)
              apply rp_pure 42 rfl (by kernel_rfl) (fun _ _ _ h => h) rfl
              · (intro W; go_simp; try rfl)
              · (go_simp; try rfl)
              apply rp_pure 43 rfl (by kernel_rfl) (fun _ _ _ h => h) rfl
              · (intro W; go_simp; try rfl)
              · (go_simp; try rfl)
              apply rp_pure 44 rfl (by kernel_rfl) (fun _ _ _ h => h) rfl
              · (intro W; go_simp; try rfl)
              · (go_simp; try rfl)
              apply rp_pure 45 rfl (by kernel_rfl) (fun _ _ _ h => h) rfl
              · (intro W; go_simp; try rfl)
              · (go_simp; try rfl)
              apply rp_pure 46 rfl (by kernel_rfl) (fun _ _ _ h => h) rfl
              · (intro W; go_simp; try rfl)
              · (go_simp; try rfl)
              apply rp_pure 47 rfl (by kernel_rfl) (fun _ _ _ h => h) rfl
              · (intro W; go_simp; try rfl)
              · (go_simp; try rfl)
              apply rp_take 48 rfl (by kernel_rfl) (fun _ _ _ h => h) (hS2.out) rfl
              · (rintro W ⟨s0, s1, s2⟩; go_simp; try rfl)
              · (go_simp; try rfl)
              apply rp_pure 49 rfl (by kernel_rfl) (fun _ _ _ h => h) rfl
              · (intro W; go_simp; try rfl)
              · (go_simp; try rfl)
              apply rp_pure 50 rfl (by kernel_rfl) (fun _ _ _ h => h) rfl
              · (intro W; go_simp; try rfl)
              · (go_simp; try rfl)
              apply rp_skip 51 rfl (by kernel_rfl) (fun _ _ _ h => h) rfl
              · (go_simp; try rfl)
              apply rp_skip 52 rfl (by kernel_rfl) (fun _ _ _ h => h) rfl
              · (go_simp; try rfl)
              apply rp_skip 53 rfl (by kernel_rfl) (fun _ _ _ h => h) rfl
              · (go_simp; try rfl)
              apply rp_skip 54 rfl (by kernel_rfl) (fun _ _ _ h => h) rfl
              · (go_simp; try rfl)
              apply rp_pure 55 rfl (by kernel_rfl) (fun _ _ _ h => h) rfl
              · (intro W; go_simp; try rfl)
              · (go_simp; try rfl)
              apply rp_pure 56 rfl (by kernel_rfl) (fun _ _ _ h => h) rfl
              · (intro W; go_simp; try rfl)
              · (go_simp; try rfl)
              refine rp_done (by kernel_rfl) ?_
              go_wp2
              go_roundw
              case rel => exact ⟨HD2.out, 1, by omega, by go_num, hE⟩
              case measure => simp [intOf]; omega
          · have hg0 : (0 : Int) ≤ l[0].writer := by omega
            by_cases hz : 0 < l[0].reads.length
            · have hE := Lib.hid (okL_one hlt (show oneL l[0] = false by rw [e8.out]; exact mx3 hz hg0))
              have hz' : (0 : Int) < l[0].reads.length := by omega
              apply rp_pure 22 rfl (by kernel_rfl) (fun _ _ _ h => h) rfl
              · (intro W; go_simp; try rfl)
              · (go_simp; try rfl)
              apply rp_pure 23 rfl (by kernel_rfl) (fun _ _ _ h => h) rfl
              · (intro W; go_simp; try rfl)
              · (go_simp; try rfl)
              apply rp_pure 24 rfl (by kernel_rfl) (fun _ _ _ h => h) rfl
              · (intro W; go_simp; try rfl)
              · (go_simp; try rfl)
              apply rp_pure 25 rfl (by kernel_rfl) (fun _ _ _ h => h) rfl
              · (intro W; go_simp; try rfl)
              · (go_simp; try rfl)
              apply rp_take 26 rfl (by kernel_rfl) (fun _ _ _ h => h) (hS2.out) rfl
              · (rintro W ⟨s0, s1, s2⟩; go_simp; try rfl)
              · (go_simp; try rfl)
              apply rp_pure 27 rfl (by kernel_rfl) (fun _ _ _ h => h) rfl
              · (intro W; go_simp; try rfl)
              · (go_simp; try rfl)
              apply rp_pure 28 rfl (by kernel_rfl) (fun _ _ _ h => h) rfl
              · (intro W; go_simp; try rfl)
              · (go_simp; try rfl)
              apply rp_pure 29 rfl (by kernel_rfl) (fun _ _ _ h => h) rfl
              · (intro W; go_simp; try rfl)
              · (go_simp; try rfl)
              apply rp_pure 30 rfl (by kernel_rfl) (fun _ _ _ h => h) rfl
              · (intro W; go_simp; try rfl)
              · (go_simp; try rfl)
              apply rp_pure 31 rfl (by kernel_rfl) (fun _ _ _ h => h) rfl
              · (intro W; go_simp; try rfl)
              · (go_simp; try rfl)
              apply rp_take 32 rfl (by kernel_rfl) (fun _ _ _ h => h) (hS2.out) rfl
              · (rintro W ⟨s0, s1, s2⟩; go_simp; try rfl)
              · (go_simp; try rfl)
              apply rp_pure 33 rfl (by kernel_rfl) (fun _ _ _ h => h) rfl
              · (intro W; go_simp; try rfl)
              · (go_simp; try rfl)
              apply rp_pure 34 rfl (by kernel_rfl) (fun _ _ _ h => h) rfl
              · (intro W; go_simp; try rfl)
              · (go_simp; try rfl)
              apply rp_pure 35 rfl (by kernel_rfl) (fun _ _ _ h => h) rfl
              · (intro W; go_simp; try rfl)
              · (go_simp; try rfl)
              apply rp_pure 36 rfl (by kernel_rfl) (fun _ _ _ h => h) rfl
              · (intro W; go_simp; try rfl)
              · (go_simp; try rfl)
              apply rp_take 37 rfl (by kernel_rfl) (fun _ _ _ h => h) (hS2.out) rfl
              · (rintro W ⟨s0, s1, s2⟩; go_simp; try rfl)
              · (go_simp; try rfl)
              apply rp_pure 38 rfl (by kernel_rfl) (fun _ _ _ h => h) rfl
              · (intro W; go_simp; try rfl)
              · (go_simp; try rfl)
              apply rp_pure 39 rfl (by kernel_rfl) (fun _ _ _ h => h) rfl
              · (intro W; go_simp; try rfl)
              · (go_simp; try rfl)
              apply rp_skip 40 rfl (by kernel_rfl) (fun _ _ _ h => h) rfl
              · (go_simp; try rfl)
              apply rp_skip 41 rfl (by kernel_rfl) (fun _ _ _ h => h) rfl
              · (go_simp; try rfl)
              apply rp_skip 42 rfl (by kernel_rfl) (fun _ _ _ h => h) rfl
              · (go_simp; try rfl)
              apply rp_skip 43 rfl (by kernel_rfl) (fun _ _ _ h => h) rfl
              · (go_simp; try rfl)
              apply rp_pure 44 rfl (by kernel_rfl) (fun _ _ _ h => h) rfl
              · (intro W; go_simp; try rfl)
              · (go_simp; try rfl)
              apply rp_pure 45 rfl (by kernel_rfl) (fun _ _ _ h => h) rfl
              · (intro W; go_simp; try rfl)
              · (go_simp; try rfl)
              apply rp_pure 46 rfl (by kernel_rfl) (fun _ _ _ h => h) rfl
              · (intro W; go_simp; try rfl)
              · (go_simp; try rfl)
              apply rp_pure 47 rfl (by kernel_rfl) (fun _ _ _ h => h) rfl
              · (intro W; go_simp; try rfl)
              · (go_simp; try rfl)
              apply rp_take 48 rfl (by kernel_rfl) (fun _ _ _ h => h) (hS2.out) rfl
              · (rintro W ⟨s0, s1, s2⟩; go_simp; try rfl)
              · (go_simp; try rfl)
              apply rp_pure 49 rfl (by kernel_rfl) (fun _ _ _ h => h) rfl
              · (intro W; go_simp; try rfl)
              · (go_simp; try rfl)
              apply rp_pure 50 rfl (by kernel_rfl) (fun _ _ _ h => h) rfl
              · (intro W; go_simp; try rfl)
              · (go_simp; try rfl)
              apply rp_pure 51 rfl (by kernel_rfl) (fun _ _ _ h => h) rfl
              · (intro W; go_simp; try rfl)
              · (go_simp; try rfl)
              apply rp_take 52 rfl (by kernel_rfl) (fun _ _ _ h => h) (hS2.out) rfl
              · (rintro W ⟨s0, s1, s2⟩; go_simp; try rfl)
              · (go_simp; try rfl)
              apply rp_pure 53 rfl (by kernel_rfl) (fun _ _ _ h => h) rfl
              · (intro W; go_simp; try rfl)
              · (go_simp; try rfl)
              apply rp_pure 54 rfl (by kernel_rfl) (fun _ _ _ h => h) rfl
              · (intro W; go_simp; try rfl)
              · (go_simp; try rfl)
              apply rp_pure 55 rfl (by kernel_rfl) (fun _ _ _ h => h) rfl
              · (intro W; go_simp; try rfl)
              · (go_simp; try rfl)
              apply rp_pure 56 rfl (by kernel_rfl) (fun _ _ _ h => h) rfl
              · (intro W; go_simp; try rfl)
              · (go_simp; try rfl)
              refine rp_done (by kernel_rfl) ?_
              go_wp2
              go_ret
              rw [hE.out]
              exact ⟨rfl, HD2.out⟩
            · have hE := Lib.hid (okP_one0 hlt hneg (show oneL l[0] = true by rw [e8.out]; exact mx4 hz hg0))
              have hz' : ¬ (0 : Int) < l[0].reads.length := by omega
              apply rp_pure 22 rfl (by kernel_rfl) (fun _ _ _ h => h) rfl
              · (intro W; go_simp; try rfl)
              · (go_simp; try rfl)
              apply rp_pure 23 rfl (by kernel_rfl) (fun _ _ _ h => h) rfl
              · (intro W; go_simp; try rfl)
              · (go_simp; try rfl)
              apply rp_pure 24 rfl (by kernel_rfl) (fun _ _ _ h => h) rfl
              · (intro W; go_simp; try rfl)
              · (go_simp; try rfl)
              apply rp_pure 25 rfl (by kernel_rfl) (fun _ _ _ h => h) rfl
              · (intro W; go_simp; try rfl)
              · (go_simp; try rfl)
              apply rp_take 26 rfl (by kernel_rfl) (fun _ _ _ h => h) (hS2.out) rfl
              · (rintro W ⟨s0, s1, s2⟩; go_simp; try rfl)
              · (go_simp; try rfl)
              apply rp_pure 27 rfl (by kernel_rfl) (fun _ _ _ h => h) rfl
              · (intro W; go_simp; try rfl)
              · (go_simp; try rfl)
              apply rp_pure 28 rfl (by kernel_rfl) (fun _ _ _ h => h) rfl
              · (intro W; go_simp; try rfl)
              · (go_simp; try rfl)
              apply rp_pure 29 rfl (by kernel_rfl) (fun _ _ _ h => h) rfl
              · (intro W; go_simp; try rfl)
              · (go_simp; try rfl)
              apply rp_pure 30 rfl (by kernel_rfl) (fun _ _ _ h => h) rfl
              · (intro W; go_simp; try rfl)
              · (go_simp; try rfl)
              apply rp_pure 31 rfl (by kernel_rfl) (fun _ _ _ h => h) rfl
              · (intro W; go_simp; try rfl)
              · (go_simp; try rfl)
              apply rp_take 32 rfl (by kernel_rfl) (fun _ _ _ h => h) (hS2.out) rfl
              · (rintro W ⟨s0, s1, s2⟩; go_simp; try rfl)
              · (go_simp; try rfl)
              apply rp_pure 33 rfl (by kernel_rfl) (fun _ _ _ h => h) rfl
              · (intro W; go_simp; try rfl)
              · (go_simp; try rfl)
              apply rp_pure 34 rfl (by kernel_rfl) (fun _ _ _ h => h) rfl
              · (intro W; go_simp; try rfl)
              · (go_simp; try rfl)
              apply rp_pure 35 rfl (by kernel_rfl) (fun _ _ _ h => h) rfl
              · (intro W; go_simp; try rfl)
              · (go_simp; try rfl)
              apply rp_pure 36 rfl (by kernel_rfl) (fun _ _ _ h => h) rfl
              · (intro W; go_simp; try rfl)
              · (go_simp; try rfl)
              apply rp_take 37 rfl (by kernel_rfl) (fun _ _ _ h => h) (hS2.out) rfl
              · (rintro W ⟨s0, s1, s2⟩; go_simp; try rfl)
              · (go_simp; try rfl)
              apply rp_pure 38 rfl (by kernel_rfl) (fun _ _ _ h => h) rfl
              · (intro W; go_simp; try rfl)
              · (go_simp; try rfl)
              apply rp_pure 39 rfl (by kernel_rfl) (fun _ _ _ h => h) rfl
              · (intro W; go_simp; try rfl)
              · (go_simp; try rfl)
              apply rp_skip 40 rfl (by kernel_rfl) (fun _ _ _ h => h) rfl
              · (go_simp; try rfl)
              apply rp_skip 41 rfl (by kernel_rfl) (fun _ _ _ h => h) rfl
              · (go_simp; try rfl)
              apply rp_skip 42 rfl (by kernel_rfl) (fun _ _ _ h => h) rfl
              · (go_simp; try rfl)
              apply rp_skip 43 rfl (by kernel_rfl) (fun _ _ _ h => h) rfl
              · (go_simp; try rfl)
              apply rp_pure 44 rfl (by kernel_rfl) (fun _ _ _ h => h) rfl
              · (intro W; go_simp; try rfl)
              · (go_simp; try rfl)
              apply rp_pure 45 rfl (by kernel_rfl) (fun _ _ _ h => h) rfl
              · (intro W; go_simp; try rfl)
              · (go_simp; try rfl)
              apply rp_pure 46 rfl (by kernel_rfl) (fun _ _ _ h => h) rfl
              · (intro W; go_simp; try rfl)
              · (go_simp; try rfl)
              apply rp_pure 47 rfl (by kernel_rfl) (fun _ _ _ h => h) rfl
              · (intro W; go_simp; try rfl)
              · (go_simp; try rfl)
              apply rp_take 48 rfl (by kernel_rfl) (fun _ _ _ h => h) (hS2.out) rfl
              · (rintro W ⟨s0, s1, s2⟩; go_simp; try rfl)
              · (go_simp; try rfl)
              apply rp_pure 49 rfl (by kernel_rfl) (fun _ _ _ h => h) rfl
              · (intro W; go_simp; try rfl)
              · (go_simp; try rfl)
              apply rp_pure 50 rfl (by kernel_rfl) (fun _ _ _ h => h) rfl
              · (intro W; go_simp; try rfl)
              · (go_simp; try rfl)
              apply rp_pure 51 rfl (by kernel_rfl) (fun _ _ _ h => h) rfl
              · (intro W; go_simp; try rfl)
              · (go_simp; try rfl)
              apply rp_take 52 rfl (by kernel_rfl) (fun _ _ _ h => h) (hS2.out) rfl
              · (rintro W ⟨s0, s1, s2⟩; go_simp; try rfl)
              · (go_simp; try rfl)
              apply rp_pure 53 rfl (by kernel_rfl) (fun _ _ _ h => h) rfl
              · (intro W; go_simp; try rfl)
              · (go_simp; try rfl)
              apply rp_pure 54 rfl (by kernel_rfl) (fun _ _ _ h => h) rfl
              · (intro W; go_simp; try rfl)
              · (go_simp; try rfl)
              apply rp_pure 55 rfl (by kernel_rfl) (fun _ _ _ h => h) rfl
              · (intro W; go_simp; try rfl)
              · (go_simp; try rfl)
              apply rp_pure 56 rfl (by kernel_rfl) (fun _ _ _ h => h) rfl
              · (intro W; go_simp; try rfl)
              · (go_simp; try rfl)
              refine rp_done (by kernel_rfl) ?_
              go_wp2
              go_roundw
              case rel => exact ⟨HD2.out, 1, by omega, by go_num, hE⟩
              case measure => simp [intOf]; omega
      | succ j =>
        have hj : j < l.length := by omega
        obtain ⟨b', o', A', C', e', -, x2, -, -, -⟩ := lk_at (H.out.mono (Keep.below hB)) hj
        simp only [Option.some.injEq, Addr.mk.injEq, and_true] at e'
        obtain ⟨rfl, rfl⟩ := e'
        have hjl : (j : Int) < l.length := by omega
        have hpos : (0 : Int) < (j : Int) + 1 := by omega
        have hwj : IntKind.i64.wrap (j : Int) = j := by rw [IntKind.wrap_i64]; omega
        have hS := Lib.hid (show (wr.alloc (.cells #[.int .i64 l[j + 1].lba, .slice A l[j + 1].reads.length C, .int .i64 l[j + 1].writer] 39)).drew.cell? ⟨wr.heap.size, 0, none⟩ = some (.int .i64 l[j + 1].lba) ∧ (wr.alloc (.cells #[.int .i64 l[j + 1].lba, .slice A l[j + 1].reads.length C, .int .i64 l[j + 1].writer] 39)).drew.cell? ⟨wr.heap.size, 1, none⟩ = some (.slice A l[j + 1].reads.length C) ∧ (wr.alloc (.cells #[.int .i64 l[j + 1].lba, .slice A l[j + 1].reads.length C, .int .i64 l[j + 1].writer] 39)).drew.cell? ⟨wr.heap.size, 2, none⟩ = some (.int .i64 l[j + 1].writer) ∧ (wr.alloc (.cells #[.int .i64 l[j + 1].lba, .slice A l[j + 1].reads.length C, .int .i64 l[j + 1].writer] 39)).drew.cell? ⟨b, o + j * 3, none⟩ = some (.int .i64 l[j].lba) from ⟨c0, c1, c2, below_cell hbx.drew x2⟩)
        have hpp := Lib.hid (okP_pos hR.out hj)
        clear hB HB hbx hblk c0 c1 c2 s1 x2
        go_wp2_with fail
        clear x1 y1 z1
        refine rp_enter [1, 8, 14, 20, 26, 32, 37, 41, 48, 52] (fun w' => w'.cell? ⟨wr.heap.size, 0, none⟩ = some (.int .i64 l[j + 1].lba) ∧ w'.cell? ⟨wr.heap.size, 1, none⟩ = some (.slice A l[j + 1].reads.length C) ∧ w'.cell? ⟨wr.heap.size, 2, none⟩ = some (.int .i64 l[j + 1].writer) ∧ w'.cell? ⟨b, o + j * 3, none⟩ = some (.int .i64 l[j].lba)) (by kernel_rfl) ?_
        generalize (wr.alloc (.cells #[.int .i64 l[j + 1].lba, .slice A l[j + 1].reads.length C, .int .i64 l[j + 1].writer] 39)).drew = wd at *
        by_cases hle : l[j + 1].lba ≤ l[j].lba
        · have hE := Lib.hid (okL_lbaS hlt hle)
          by_cases hneg : l[j + 1].lba < 0
          · skip
            apply rp_pure 0 rfl (by kernel_rfl) (fun _ _ _ h => h) rfl
            · (intro W; go_simp; try rfl)
            · (go_simp; try rfl)
            apply rp_take 1 rfl (by kernel_rfl) (fun _ _ _ h => h) (hS.out) rfl
            · (rintro W ⟨s0, s1, s2, s3⟩; go_simp; try rfl)
            · (go_simp; try rfl)
            apply rp_pure 2 rfl (by kernel_rfl) (fun _ _ _ h => h) rfl
            · (intro W; go_simp; try rfl)
            · (go_simp; try rfl)
            apply rp_pure 3 rfl (by kernel_rfl) (fun _ _ _ h => h) rfl
            · (intro W; go_simp; try rfl)
            · (go_simp; try rfl)
            apply rp_skip 4 rfl (by kernel_rfl) (fun _ _ _ h => h) rfl
            · (go_simp; try rfl)
            apply rp_skip 5 rfl (by kernel_rfl) (fun _ _ _ h => h) rfl
            · (go_simp; try rfl)
            apply rp_skip 6 rfl (by kernel_rfl) (fun _ _ _ h => h) rfl
            · (go_simp; try rfl)
            apply rp_skip 7 rfl (by kernel_rfl) (fun _ _ _ h => h) rfl
            · (go_simp; try rfl)
            apply rp_skip 8 rfl (by kernel_rfl) (fun _ _ _ h => h) rfl
            · (go_simp; try rfl)
            apply rp_skip 9 rfl (by kernel_rfl) (fun _ _ _ h => h) rfl
            · (go_simp; try rfl)
            apply rp_skip 10 rfl (by kernel_rfl) (fun _ _ _ h => h) rfl
            · (go_simp; try rfl)
            apply rp_skip 11 rfl (by kernel_rfl) (fun _ _ _ h => h) rfl
            · (go_simp; try rfl)
            apply rp_skip 12 rfl (by kernel_rfl) (fun _ _ _ h => h) rfl
            · (go_simp; try rfl)
            apply rp_skip 13 rfl (by kernel_rfl) (fun _ _ _ h => h) rfl
            · (go_simp; try rfl)
            apply rp_skip 14 rfl (by kernel_rfl) (fun _ _ _ h => h) rfl
            · (go_simp; try rfl)
            apply rp_skip 15 rfl (by kernel_rfl) (fun _ _ _ h => h) rfl
            · (go_simp; try rfl)
            apply rp_skip 16 rfl (by kernel_rfl) (fun _ _ _ h => h) rfl
            · (go_simp; try rfl)
            apply rp_pure 17 rfl (by kernel_rfl) (fun _ _ _ h => h) rfl
            · (intro W; go_simp; try rfl)
            · (go_simp; try rfl)
            apply rp_pure 18 rfl (by kernel_rfl) (fun _ _ _ h => h) rfl
            · (intro W; go_simp; try rfl)
            · (go_simp; try rfl)
            apply rp_skip 19 rfl (by kernel_rfl) (fun _ _ _ h => h) rfl
            · (go_simp; try rfl)
            apply rp_skip 20 rfl (by kernel_rfl) (fun _ _ _ h => h) rfl
            · (go_simp; try rfl)
            apply rp_skip 21 rfl (by kernel_rfl) (fun _ _ _ h => h) rfl
            · (go_simp; try rfl)
            apply rp_skip 22 rfl (by kernel_rfl) (fun _ _ _ h => h) rfl
            · (go_simp; try rfl)
            apply rp_pure 23 rfl (by kernel_rfl) (fun _ _ _ h => h) rfl
            · (intro W; go_simp; try rfl)
            · (go_simp; try rfl)
            apply rp_pure 24 rfl (by kernel_rfl) (fun _ _ _ h => h) rfl
            · (intro W; go_simp; try rfl)
            · (go_simp; try rfl)
            apply rp_skip 25 rfl (by kernel_rfl) (fun _ _ _ h => h) rfl
            · (go_simp; try rfl)
            apply rp_skip 26 rfl (by kernel_rfl) (fun _ _ _ h => h) rfl
            · (go_simp; try rfl)
            apply rp_skip 27 rfl (by kernel_rfl) (fun _ _ _ h => h) rfl
            · (go_simp; try rfl)
            apply rp_skip 28 rfl (by kernel_rfl) (fun _ _ _ h => h) rfl
            · (go_simp; try rfl)
            apply rp_pure 29 rfl (by kernel_rfl) (fun _ _ _ h => h) rfl
            · (intro W; go_simp; try rfl)
            · (go_simp; try rfl)
            apply rp_pure 30 rfl (by kernel_rfl) (fun _ _ _ h => h) rfl
            · (intro W; go_simp; try rfl)
            · (go_simp; try rfl)
            apply rp_skip 31 rfl (by kernel_rfl) (fun _ _ _ h => h) rfl
            · (go_simp; try rfl)
            apply rp_skip 32 rfl (by kernel_rfl) (fun _ _ _ h => h) rfl
            · (go_simp; try rfl)
            apply rp_skip 33 rfl (by kernel_rfl) (fun _ _ _ h => h) rfl
            · (go_simp; try rfl)
            apply rp_pure 34 rfl (by kernel_rfl) (fun _ _ _ h => h) rfl
            · (intro W; go_simp; try rfl)
            · (go_simp; try rfl)
            apply rp_pure 35 rfl (by kernel_rfl) (fun _ _ _ h => h) rfl
            · (intro W; go_simp; try rfl)
            · (go_simp; try rfl)
            apply rp_skip 36 rfl (by kernel_rfl) (fun _ _ _ h => h) rfl
            · (go_simp; try rfl)
            apply rp_skip 37 rfl (by kernel_rfl) (fun _ _ _ h => h) rfl
            · (go_simp; try rfl)
            apply rp_skip 38 rfl (by kernel_rfl) (fun _ _ _ h => h) rfl
            · (go_simp; try rfl)
            apply rp_skip 39 rfl (by kernel_rfl) (fun _ _ _ h => h) rfl
            · (go_simp; try rfl)
            apply rp_skip 40 rfl (by kernel_rfl) (fun _ _ _ h => h) rfl
            · (go_simp; try rfl)
            apply rp_skip 41 rfl (by kernel_rfl) (fun _ _ _ h => h) rfl
            · (go_simp; try rfl)
            apply rp_skip 42 rfl (by kernel_rfl) (fun _ _ _ h => h) rfl
            · (go_simp; try rfl)
            apply rp_skip 43 rfl (by kernel_rfl) (fun _ _ _ h => h) rfl
            · (go_simp; try rfl)
            apply rp_skip 44 rfl (by kernel_rfl) (fun _ _ _ h => h) rfl
            · (go_simp; try rfl)
            apply rp_pure 45 rfl (by kernel_rfl) (fun _ _ _ h => h) rfl
            · (intro W; go_simp; try rfl)
            · (go_simp; try rfl)
            apply rp_pure 46 rfl (by kernel_rfl) (fun _ _ _ h => h) rfl
            · (intro W; go_simp; try rfl)
            · (go_simp; try rfl)
            apply rp_skip 47 rfl (by kernel_rfl) (fun _ _ _ h => h) rfl
            · (go_simp; try rfl)
            apply rp_skip 48 rfl (by kernel_rfl) (fun _ _ _ h => h) rfl
            · (go_simp; try rfl)
            apply rp_skip 49 rfl (by kernel_rfl) (fun _ _ _ h => h) rfl
            · (go_simp; try rfl)
            apply rp_skip 50 rfl (by kernel_rfl) (fun _ _ _ h => h) rfl
            · (go_simp; try rfl)
            apply rp_skip 51 rfl (by kernel_rfl) (fun _ _ _ h => h) rfl
            · (go_simp; try rfl)
            apply rp_skip 52 rfl (by kernel_rfl) (fun _ _ _ h => h) rfl
            · (go_simp; try rfl)
            apply rp_skip 53 rfl (by kernel_rfl) (fun _ _ _ h => h) rfl
            · (go_simp; try rfl)
            apply rp_skip 54 rfl (by kernel_rfl) (fun _ _ _ h => h) rfl
            · (go_simp; try rfl)
            apply rp_skip 55 rfl (by kernel_rfl) (fun _ _ _ h => h) rfl
            · (go_simp; try rfl)
            apply rp_pure 56 rfl (by kernel_rfl) (fun _ _ _ h => h) rfl
            · (intro W; go_simp; try rfl)
            · (go_simp; try rfl)
            refine rp_done (by kernel_rfl) ?_
            go_wp2
            go_ret
            rw [hE.out]
            exact ⟨rfl, HD.out⟩
          · skip
            apply rp_pure 0 rfl (by kernel_rfl) (fun _ _ _ h => h) rfl
            · (intro W; go_simp; try rfl)
            · (go_simp; try rfl)
            apply rp_take 1 rfl (by kernel_rfl) (fun _ _ _ h => h) (hS.out) rfl
            · (rintro W ⟨s0, s1, s2, s3⟩; go_simp; try rfl)
            · (go_simp; try rfl)
            apply rp_pure 2 rfl (by kernel_rfl) (fun _ _ _ h => h) rfl
            · (intro W; go_simp; try rfl)
            · (go_simp; try rfl)
            apply rp_pure 3 rfl (by kernel_rfl) (fun _ _ _ h => h) rfl
            · (intro W; go_simp; try rfl)
            · (go_simp; try rfl)
            apply rp_pure 4 rfl (by kernel_rfl) (fun _ _ _ h => h) rfl
            · (intro W; go_simp; try rfl)
            · (go_simp; try rfl)
            apply rp_pure 5 rfl (by kernel_rfl) (fun _ _ _ h => h) rfl
            · (intro W; go_simp; try rfl)
            · (go_simp; try rfl)
            apply rp_pure 6 rfl (by kernel_rfl) (fun _ _ _ h => h) rfl
            · (intro W; go_simp; try rfl)
            · (go_simp; try rfl)
            apply rp_pure 7 rfl (by kernel_rfl) (fun _ _ _ h => h) rfl
            · (intro W; go_simp; try rfl)
            · (go_simp; try rfl)
            apply rp_take 8 rfl (by kernel_rfl) (fun _ _ _ h => h) (hS.out) rfl
            · (rintro W ⟨s0, s1, s2, s3⟩; go_simp; try rfl)
            · (go_simp; try rfl)
            apply rp_pure 9 rfl (by kernel_rfl) (fun _ _ _ h => h) rfl
            · (intro W; go_simp; try rfl)
            · (go_simp; try rfl)
            apply rp_pure 10 rfl (by kernel_rfl) (fun _ _ _ h => h) rfl
            · (intro W; go_simp; try rfl)
            · (go_simp; try rfl)
            apply rp_pure 11 rfl (by kernel_rfl) (fun _ _ _ h => h) rfl
            · (intro W; go_simp; try rfl)
            · (go_simp; try rfl)
            apply rp_pure 12 rfl (by kernel_rfl) (fun _ _ _ h => h) rfl
            · (intro W; go_simp; try rfl)
            · (go_simp; try rfl)
            apply rp_pure 13 rfl (by kernel_rfl) (fun _ _ _ h => h) rfl
            · (intro W; go_simp; try rfl)
            · (go_simp; try rfl)
            apply rp_take 14 rfl (by kernel_rfl) (fun _ _ _ h => h) (hS.out) rfl
            · (rintro W ⟨s0, s1, s2, s3⟩; go_simp; try rfl)
            · (go_simp; try rfl)
            apply rp_pure 15 rfl (by kernel_rfl) (fun _ _ _ h => h) rfl
            · (intro W; go_simp; try rfl)
            · (go_simp; try rfl)
            apply rp_pure 16 rfl (by kernel_rfl) (fun _ _ _ h => h) rfl
            · (intro W; go_simp; try rfl)
            · (go_simp; try rfl)
            apply rp_pure 17 rfl (by kernel_rfl) (fun _ _ _ h => h) rfl
            · (intro W; go_simp; try rfl)
            · (go_simp; try rfl)
            apply rp_pure 18 rfl (by kernel_rfl) (fun _ _ _ h => h) rfl
            · (intro W; go_simp; try rfl)
            · (go_simp; try rfl)
            apply rp_skip 19 rfl (by kernel_rfl) (fun _ _ _ h => h) rfl
            · (go_simp; try rfl)
            apply rp_skip 20 rfl (by kernel_rfl) (fun _ _ _ h => h) rfl
            · (go_simp; try rfl)
            apply rp_skip 21 rfl (by kernel_rfl) (fun _ _ _ h => h) rfl
            · (go_simp; try rfl)
            apply rp_skip 22 rfl (by kernel_rfl) (fun _ _ _ h => h) rfl
            · (go_simp; try rfl)
            apply rp_pure 23 rfl (by kernel_rfl) (fun _ _ _ h => h) rfl
            · (intro W; go_simp; try rfl)
            · (go_simp; try rfl)
            apply rp_pure 24 rfl (by kernel_rfl) (fun _ _ _ h => h) rfl
            · (intro W; go_simp; try rfl)
            · (go_simp; try rfl)
            apply rp_skip 25 rfl (by kernel_rfl) (fun _ _ _ h => h) rfl
            · (go_simp; try rfl)
            apply rp_skip 26 rfl (by kernel_rfl) (fun _ _ _ h => h) rfl
            · (go_simp; try rfl)
            apply rp_skip 27 rfl (by kernel_rfl) (fun _ _ _ h => h) rfl
            · (go_simp; try rfl)
            apply rp_skip 28 rfl (by kernel_rfl) (fun _ _ _ h => h) rfl
            · (go_simp; try rfl)
            apply rp_pure 29 rfl (by kernel_rfl) (fun _ _ _ h => h) rfl
            · (intro W; go_simp; try rfl)
            · (go_simp; try rfl)
            apply rp_pure 30 rfl (by kernel_rfl) (fun _ _ _ h => h) rfl
            · (intro W; go_simp; try rfl)
            · (go_simp; try rfl)
            apply rp_skip 31 rfl (by kernel_rfl) (fun _ _ _ h => h) rfl
            · (go_simp; try rfl)
            apply rp_skip 32 rfl (by kernel_rfl) (fun _ _ _ h => h) rfl
            · (go_simp; try rfl)
            apply rp_skip 33 rfl (by kernel_rfl) (fun _ _ _ h => h) rfl
            · (go_simp; try rfl)
            apply rp_pure 34 rfl (by kernel_rfl) (fun _ _ _ h => h) rfl
            · (intro W; go_simp; try rfl)
            · (go_simp; try rfl)
            apply rp_pure 35 rfl (by kernel_rfl) (fun _ _ _ h => h) rfl
            · (intro W; go_simp; try rfl)
            · (go_simp; try rfl)
            apply rp_skip 36 rfl (by kernel_rfl) (fun _ _ _ h => h) rfl
            · (go_simp; try rfl)
            apply rp_skip 37 rfl (by kernel_rfl) (fun _ _ _ h => h) rfl
            · (go_simp; try rfl)
            apply rp_skip 38 rfl (by kernel_rfl) (fun _ _ _ h => h) rfl
            · (go_simp; try rfl)
            apply rp_skip 39 rfl (by kernel_rfl) (fun _ _ _ h => h) rfl
            · (go_simp; try rfl)
            apply rp_skip 40 rfl (by kernel_rfl) (fun _ _ _ h => h) rfl
            · (go_simp; try rfl)
            apply rp_skip 41 rfl (by kernel_rfl) (fun _ _ _ h => h) rfl
            · (go_simp; try rfl)
            apply rp_skip 42 rfl (by kernel_rfl) (fun _ _ _ h => h) rfl
            · (go_simp; try rfl)
            apply rp_skip 43 rfl (by kernel_rfl) (fun _ _ _ h => h) rfl
            · (go_simp; try rfl)
            apply rp_skip 44 rfl (by kernel_rfl) (fun _ _ _ h => h) rfl
            · (go_simp; try rfl)
            apply rp_pure 45 rfl (by kernel_rfl) (fun _ _ _ h => h) rfl
            · (intro W; go_simp; try rfl)
            · (go_simp; try rfl)
            apply rp_pure 46 rfl (by kernel_rfl) (fun _ _ _ h => h) rfl
            · (intro W; go_simp; try rfl)
            · (go_simp; try rfl)
            apply rp_skip 47 rfl (by kernel_rfl) (fun _ _ _ h => h) rfl
            · (go_simp; try rfl)
            apply rp_skip 48 rfl (by kernel_rfl) (fun _ _ _ h => h) rfl
            · (go_simp; try rfl)
            apply rp_skip 49 rfl (by kernel_rfl) (fun _ _ _ h => h) rfl
            · (go_simp; try rfl)
            apply rp_skip 50 rfl (by kernel_rfl) (fun _ _ _ h => h) rfl
            · (go_simp; try rfl)
            apply rp_skip 51 rfl (by kernel_rfl) (fun _ _ _ h => h) rfl
            · (go_simp; try rfl)
            apply rp_skip 52 rfl (by kernel_rfl) (fun _ _ _ h => h) rfl
            · (go_simp; try rfl)
            apply rp_skip 53 rfl (by kernel_rfl) (fun _ _ _ h => h) rfl
            · (go_simp; try rfl)
            apply rp_skip 54 rfl (by kernel_rfl) (fun _ _ _ h => h) rfl
            · (go_simp; try rfl)
            apply rp_skip 55 rfl (by kernel_rfl) (fun _ _ _ h => h) rfl
            · (go_simp; try rfl)
            apply rp_pure 56 rfl (by kernel_rfl) (fun _ _ _ h => h) rfl
            · (intro W; go_simp; try rfl)
            · (go_simp; try rfl)
            refine rp_done (by kernel_rfl) ?_
            go_wp2
            go_ret
            rw [hE.out]
            exact ⟨rfl, HD.out⟩
        have hneg : ¬ l[j + 1].lba < 0 := by have := hpp.out; omega
        apply rp_pure 0 rfl (by kernel_rfl) (fun _ _ _ h => h) rfl
        · (intro W; go_simp; try rfl)
        · (go_simp; try rfl)
        apply rp_take 1 rfl (by kernel_rfl) (fun _ _ _ h => h) (hS.out) rfl
        · (rintro W ⟨s0, s1, s2, s3⟩; go_simp; try rfl)
        · (go_simp; try rfl)
        apply rp_pure 2 rfl (by kernel_rfl) (fun _ _ _ h => h) rfl
        · (intro W; go_simp; try rfl)
        · (go_simp; try rfl)
        apply rp_pure 3 rfl (by kernel_rfl) (fun _ _ _ h => h) rfl
        · (intro W; go_simp; try rfl)
        · (go_simp; try rfl)
        apply rp_pure 4 rfl (by kernel_rfl) (fun _ _ _ h => h) rfl
        · (intro W; go_simp; try rfl)
        · (go_simp; try rfl)
        apply rp_pure 5 rfl (by kernel_rfl) (fun _ _ _ h => h) rfl
        · (intro W; go_simp; try rfl)
        · (go_simp; try rfl)
        apply rp_pure 6 rfl (by kernel_rfl) (fun _ _ _ h => h) rfl
        · (intro W; go_simp; try rfl)
        · (go_simp; try rfl)
        apply rp_pure 7 rfl (by kernel_rfl) (fun _ _ _ h => h) rfl
        · (intro W; go_simp; try rfl)
        · (go_simp; try rfl)
        apply rp_take 8 rfl (by kernel_rfl) (fun _ _ _ h => h) (hS.out) rfl
        · (rintro W ⟨s0, s1, s2, s3⟩; go_simp; try rfl)
        · (go_simp; try rfl)
        apply rp_pure 9 rfl (by kernel_rfl) (fun _ _ _ h => h) rfl
        · (intro W; go_simp; try rfl)
        · (go_simp; try rfl)
        apply rp_pure 10 rfl (by kernel_rfl) (fun _ _ _ h => h) rfl
        · (intro W; go_simp; try rfl)
        · (go_simp; try rfl)
        apply rp_pure 11 rfl (by kernel_rfl) (fun _ _ _ h => h) rfl
        · (intro W; go_simp; try rfl)
        · (go_simp; try rfl)
        apply rp_pure 12 rfl (by kernel_rfl) (fun _ _ _ h => h) rfl
        · (intro W; go_simp; try rfl)
        · (go_simp; try rfl)
        apply rp_pure 13 rfl (by kernel_rfl) (fun _ _ _ h => h) rfl
        · (intro W; go_simp; try rfl)
        · (go_simp; try rfl)
        apply rp_take 14 rfl (by kernel_rfl) (fun _ _ _ h => h) (hS.out) rfl
        · (rintro W ⟨s0, s1, s2, s3⟩; go_simp; try rfl)
        · (go_simp; try rfl)
        apply rp_pure 15 rfl (by kernel_rfl) (fun _ _ _ h => h) rfl
        · (intro W; go_simp; try rfl)
        · (go_simp; try rfl)
        apply rp_pure 16 rfl (by kernel_rfl) (fun _ _ _ h => h) rfl
        · (intro W; go_simp; try rfl)
        · (go_simp; try rfl)
        apply rp_pure 17 rfl (by kernel_rfl) (fun _ _ _ h => h) rfl
        · (intro W; go_simp; try rfl)
        · (go_simp; try rfl)
        apply rp_pure 18 rfl (by kernel_rfl) (fun _ _ _ h => h) rfl
        · (intro W; go_simp; try rfl)
        · (go_simp; try rfl)
        apply rp_pure 19 rfl (by kernel_rfl) (fun _ _ _ h => h) rfl
        · (intro W; go_simp; try rfl)
        · (go_simp; try rfl)
        apply rp_take 20 rfl (by kernel_rfl) (fun _ _ _ h => h) (hS.out) rfl
        · (rintro W ⟨s0, s1, s2, s3⟩; go_simp; try rfl)
        · (go_simp; try rfl)
        refine rp_only 21 (by kernel_rfl) rfl (fun K hK => ?_)
        go_simp
        ((with_reducible refine (rrising_any _ l[j + 1].reads wd _ HZ.out hrl.out).mono ?_))
        rintro q w2 ⟨rfl, hB2⟩
        have hS2 := Lib.hid (show w2.cell? ⟨wr.heap.size, 0, none⟩ = some (.int .i64 l[j + 1].lba) ∧ w2.cell? ⟨wr.heap.size, 1, none⟩ = some (.slice A l[j + 1].reads.length C) ∧ w2.cell? ⟨wr.heap.size, 2, none⟩ = some (.int .i64 l[j + 1].writer) ∧ w2.cell? ⟨b, o + j * 3, none⟩ = some (.int .i64 l[j].lba) from ⟨below_cell hB2 hS.out.1, below_cell hB2 hS.out.2.1, below_cell hB2 hS.out.2.2.1, below_cell hB2 hS.out.2.2.2⟩)
        have HD2 := Lib.hid (HD.out.trans (hB2.mono HD.out.size))
        refine hK _ _ ⟨fun _ _ => hS2.out, ?_⟩; clear hK K hB2 hS HD HZ
        cases hr : ris l[j + 1].reads with
        | false =>
          have hE := Lib.hid (okL_one hlt (show oneL l[j + 1] = false by simp [oneL, hr]))
          apply rp_pure 22 rfl (by kernel_rfl) (fun _ _ _ h => h) rfl
          · (intro W; go_simp; try rfl)
          · (go_simp; try rfl)
          apply rp_pure 23 rfl (by kernel_rfl) (fun _ _ _ h => h) rfl
          · (intro W; go_simp; try rfl)
          · (go_simp; try rfl)
          apply rp_pure 24 rfl (by kernel_rfl) (fun _ _ _ h => h) rfl
          · (intro W; go_simp; try rfl)
          · (go_simp; try rfl)
          apply rp_skip 25 rfl (by kernel_rfl) (fun _ _ _ h => h) rfl
          · (go_simp; try rfl)
          apply rp_skip 26 rfl (by kernel_rfl) (fun _ _ _ h => h) rfl
          · (go_simp; try rfl)
          apply rp_skip 27 rfl (by kernel_rfl) (fun _ _ _ h => h) rfl
          · (go_simp; try rfl)
          apply rp_skip 28 rfl (by kernel_rfl) (fun _ _ _ h => h) rfl
          · (go_simp; try rfl)
          apply rp_pure 29 rfl (by kernel_rfl) (fun _ _ _ h => h) rfl
          · (intro W; go_simp; try rfl)
          · (go_simp; try rfl)
          apply rp_pure 30 rfl (by kernel_rfl) (fun _ _ _ h => h) rfl
          · (intro W; go_simp; try rfl)
          · (go_simp; try rfl)
          apply rp_skip 31 rfl (by kernel_rfl) (fun _ _ _ h => h) rfl
          · (go_simp; try rfl)
          apply rp_skip 32 rfl (by kernel_rfl) (fun _ _ _ h => h) rfl
          · (go_simp; try rfl)
          apply rp_skip 33 rfl (by kernel_rfl) (fun _ _ _ h => h) rfl
          · (go_simp; try rfl)
          apply rp_pure 34 rfl (by kernel_rfl) (fun _ _ _ h => h) rfl
          · (intro W; go_simp; try rfl)
          · (go_simp; try rfl)
          apply rp_pure 35 rfl (by kernel_rfl) (fun _ _ _ h => h) rfl
          · (intro W; go_simp; try rfl)
          · (go_simp; try rfl)
          apply rp_skip 36 rfl (by kernel_rfl) (fun _ _ _ h => h) rfl
          · (go_simp; try rfl)
          apply rp_skip 37 rfl (by kernel_rfl) (fun _ _ _ h => h) rfl
          · (go_simp; try rfl)
          apply rp_skip 38 rfl (by kernel_rfl) (fun _ _ _ h => h) rfl
          · (go_simp; try rfl)
          apply rp_skip 39 rfl (by kernel_rfl) (fun _ _ _ h => h) rfl
          · (go_simp; try rfl)
          apply rp_skip 40 rfl (by kernel_rfl) (fun _ _ _ h => h) rfl
          · (go_simp; try rfl)
          apply rp_skip 41 rfl (by kernel_rfl) (fun _ _ _ h => h) rfl
          · (go_simp; try rfl)
          apply rp_skip 42 rfl (by kernel_rfl) (fun _ _ _ h => h) rfl
          · (go_simp; try rfl)
          apply rp_skip 43 rfl (by kernel_rfl) (fun _ _ _ h => h) rfl
          · (go_simp; try rfl)
          apply rp_skip 44 rfl (by kernel_rfl) (fun _ _ _ h => h) rfl
          · (go_simp; try rfl)
          apply rp_pure 45 rfl (by kernel_rfl) (fun _ _ _ h => h) rfl
          · (intro W; go_simp; try rfl)
          · (go_simp; try rfl)
          apply rp_pure 46 rfl (by kernel_rfl) (fun _ _ _ h => h) rfl
          · (intro W; go_simp; try rfl)
          · (go_simp; try rfl)
          apply rp_skip 47 rfl (by kernel_rfl) (fun _ _ _ h => h) rfl
          · (go_simp; try rfl)
          apply rp_skip 48 rfl (by kernel_rfl) (fun _ _ _ h => h) rfl
          · (go_simp; try rfl)
          apply rp_skip 49 rfl (by kernel_rfl) (fun _ _ _ h => h) rfl
          · (go_simp; try rfl)
          apply rp_skip 50 rfl (by kernel_rfl) (fun _ _ _ h => h) rfl
          · (go_simp; try rfl)
          apply rp_skip 51 rfl (by kernel_rfl) (fun _ _ _ h => h) rfl
          · (go_simp; try rfl)
          apply rp_skip 52 rfl (by kernel_rfl) (fun _ _ _ h => h) rfl
          · (go_simp; try rfl)
          apply rp_skip 53 rfl (by kernel_rfl) (fun _ _ _ h => h) rfl
          · (go_simp; try rfl)
          apply rp_skip 54 rfl (by kernel_rfl) (fun _ _ _ h => h) rfl
          · (go_simp; try rfl)
          apply rp_skip 55 rfl (by kernel_rfl) (fun _ _ _ h => h) rfl
          · (go_simp; try rfl)
          apply rp_pure 56 rfl (by kernel_rfl) (fun _ _ _ h => h) rfl
          · (intro W; go_simp; try rfl)
          · (go_simp; try rfl)
          refine rp_done (by kernel_rfl) ?_
          go_wp2
          go_ret
          rw [hE.out]
          exact ⟨rfl, HD2.out⟩
        | true =>
          have Hr := Lib.hid hr
          by_cases h8 : 8 < l[j + 1].reads.length
          · have hE := Lib.hid (okL_one hlt (show oneL l[j + 1] = false by simp [oneL, show ¬ l[j + 1].reads.length ≤ 8 by omega]))
            have h8' : (8 : Int) < l[j + 1].reads.length := by omega
            apply rp_pure 22 rfl (by kernel_rfl) (fun _ _ _ h => h) rfl
            · (intro W; go_simp; try rfl)
            · (go_simp; try rfl)
            apply rp_pure 23 rfl (by kernel_rfl) (fun _ _ _ h => h) rfl
            · (intro W; go_simp; try rfl)
            · (go_simp; try rfl)
            apply rp_pure 24 rfl (by kernel_rfl) (fun _ _ _ h => h) rfl
            · (intro W; go_simp; try rfl)
            · (go_simp; try rfl)
            apply rp_pure 25 rfl (by kernel_rfl) (fun _ _ _ h => h) rfl
            · (intro W; go_simp; try rfl)
            · (go_simp; try rfl)
            apply rp_take 26 rfl (by kernel_rfl) (fun _ _ _ h => h) (hS2.out) rfl
            · (rintro W ⟨s0, s1, s2, s3⟩; go_simp; try rfl)
            · (go_simp; try rfl)
            apply rp_pure 27 rfl (by kernel_rfl) (fun _ _ _ h => h) rfl
            · (intro W; go_simp; try rfl)
            · (go_simp; try rfl)
            apply rp_pure 28 rfl (by kernel_rfl) (fun _ _ _ h => h) rfl
            · (intro W; go_simp; try rfl)
            · (go_simp; try rfl)
            apply rp_pure 29 rfl (by kernel_rfl) (fun _ _ _ h => h) rfl
            · (intro W; go_simp; try rfl)
            · (go_simp; try rfl)
            apply rp_pure 30 rfl (by kernel_rfl) (fun _ _ _ h => h) rfl
            · (intro W; go_simp; try rfl)
            · (go_simp; try rfl)
            apply rp_skip 31 rfl (by kernel_rfl) (fun _ _ _ h => h) rfl
            · (go_simp; try rfl)
            apply rp_skip 32 rfl (by kernel_rfl) (fun _ _ _ h => h) rfl
            · (go_simp; try rfl)
            apply rp_skip 33 rfl (by kernel_rfl) (fun _ _ _ h => h) rfl
            · (go_simp; try rfl)
            apply rp_pure 34 rfl (by kernel_rfl) (fun _ _ _ h => h) rfl
            · (intro W; go_simp; try rfl)
            · (go_simp; try rfl)
            apply rp_pure 35 rfl (by kernel_rfl) (fun _ _ _ h => h) rfl
            · (intro W; go_simp; try rfl)
            · (go_simp; try rfl)
            apply rp_skip 36 rfl (by kernel_rfl) (fun _ _ _ h => h) rfl
            · (go_simp; try rfl)
            apply rp_skip 37 rfl (by kernel_rfl) (fun _ _ _ h => h) rfl
            · (go_simp; try rfl)
            apply rp_skip 38 rfl (by kernel_rfl) (fun _ _ _ h => h) rfl
            · (go_simp; try rfl)
            apply rp_skip 39 rfl (by kernel_rfl) (fun _ _ _ h => h) rfl
            · (go_simp; try rfl)
            apply rp_skip 40 rfl (by kernel_rfl) (fun _ _ _ h => h) rfl
            · (go_simp; try rfl)
            apply rp_skip 41 rfl (by kernel_rfl) (fun _ _ _ h => h) rfl
            · (go_simp; try rfl)
            apply rp_skip 42 rfl (by kernel_rfl) (fun _ _ _ h => h) rfl
            · (go_simp; try rfl)
            apply rp_skip 43 rfl (by kernel_rfl) (fun _ _ _ h => h) rfl
            · (go_simp; try rfl)
            apply rp_skip 44 rfl (by kernel_rfl) (fun _ _ _ h => h) rfl
            · (go_simp; try rfl)
            apply rp_pure 45 rfl (by kernel_rfl) (fun _ _ _ h => h) rfl
            · (intro W; go_simp; try rfl)
            · (go_simp; try rfl)
            apply rp_pure 46 rfl (by kernel_rfl) (fun _ _ _ h => h) rfl
            · (intro W; go_simp; try rfl)
            · (go_simp; try rfl)
            apply rp_skip 47 rfl (by kernel_rfl) (fun _ _ _ h => h) rfl
            · (go_simp; try rfl)
            apply rp_skip 48 rfl (by kernel_rfl) (fun _ _ _ h => h) rfl
            · (go_simp; try rfl)
            apply rp_skip 49 rfl (by kernel_rfl) (fun _ _ _ h => h) rfl
            · (go_simp; try rfl)
            apply rp_skip 50 rfl (by kernel_rfl) (fun _ _ _ h => h) rfl
            · (go_simp; try rfl)
            apply rp_skip 51 rfl (by kernel_rfl) (fun _ _ _ h => h) rfl
            · (go_simp; try rfl)
            apply rp_skip 52 rfl (by kernel_rfl) (fun _ _ _ h => h) rfl
            · (go_simp; try rfl)
            apply rp_skip 53 rfl (by kernel_rfl) (fun _ _ _ h => h) rfl
            · (go_simp; try rfl)
            apply rp_skip 54 rfl (by kernel_rfl) (fun _ _ _ h => h) rfl
            · (go_simp; try rfl)
            apply rp_skip 55 rfl (by kernel_rfl) (fun _ _ _ h => h) rfl
            · (go_simp; try rfl)
            apply rp_pure 56 rfl (by kernel_rfl) (fun _ _ _ h => h) rfl
            · (intro W; go_simp; try rfl)
            · (go_simp; try rfl)
            refine rp_done (by kernel_rfl) ?_
            go_wp2
            go_ret
            rw [hE.out]
            exact ⟨rfl, HD2.out⟩
          have h8' : ¬ (8 : Int) < l[j + 1].reads.length := by omega
          by_cases h1 : l[j + 1].writer < -1
          · have hE := Lib.hid (okL_one hlt (oneL_w h1))
            apply rp_pure 22 rfl (by kernel_rfl) (fun _ _ _ h => h) rfl
            · (intro W; go_simp; try rfl)
            · (go_simp; try rfl)
            apply rp_pure 23 rfl (by kernel_rfl) (fun _ _ _ h => h) rfl
            · (intro W; go_simp; try rfl)
            · (go_simp; try rfl)
            apply rp_pure 24 rfl (by kernel_rfl) (fun _ _ _ h => h) rfl
            · (intro W; go_simp; try rfl)
            · (go_simp; try rfl)
            apply rp_pure 25 rfl (by kernel_rfl) (fun _ _ _ h => h) rfl
            · (intro W; go_simp; try rfl)
            · (go_simp; try rfl)
            apply rp_take 26 rfl (by kernel_rfl) (fun _ _ _ h => h) (hS2.out) rfl
            · (rintro W ⟨s0, s1, s2, s3⟩; go_simp; try rfl)
            · (go_simp; try rfl)
            apply rp_pure 27 rfl (by kernel_rfl) (fun _ _ _ h => h) rfl
            · (intro W; go_simp; try rfl)
            · (go_simp; try rfl)
            apply rp_pure 28 rfl (by kernel_rfl) (fun _ _ _ h => h) rfl
            · (intro W; go_simp; try rfl)
            · (go_simp; try rfl)
            apply rp_pure 29 rfl (by kernel_rfl) (fun _ _ _ h => h) rfl
            · (intro W; go_simp; try rfl)
            · (go_simp; try rfl)
            apply rp_pure 30 rfl (by kernel_rfl) (fun _ _ _ h => h) rfl
            · (intro W; go_simp; try rfl)
            · (go_simp; try rfl)
            apply rp_pure 31 rfl (by kernel_rfl) (fun _ _ _ h => h) rfl
            · (intro W; go_simp; try rfl)
            · (go_simp; try rfl)
            apply rp_take 32 rfl (by kernel_rfl) (fun _ _ _ h => h) (hS2.out) rfl
            · (rintro W ⟨s0, s1, s2, s3⟩; go_simp; try rfl)
            · (go_simp; try rfl)
            apply rp_pure 33 rfl (by kernel_rfl) (fun _ _ _ h => h) rfl
            · (intro W; go_simp; try rfl)
            · (go_simp; try rfl)
            apply rp_pure 34 rfl (by kernel_rfl) (fun _ _ _ h => h) rfl
            · (intro W; go_simp; try rfl)
            · (go_simp; try rfl)
            apply rp_pure 35 rfl (by kernel_rfl) (fun _ _ _ h => h) rfl
            · (intro W; go_simp; try rfl)
            · (go_simp; try rfl)
            apply rp_skip 36 rfl (by kernel_rfl) (fun _ _ _ h => h) rfl
            · (go_simp; try rfl)
            apply rp_skip 37 rfl (by kernel_rfl) (fun _ _ _ h => h) rfl
            · (go_simp; try rfl)
            apply rp_skip 38 rfl (by kernel_rfl) (fun _ _ _ h => h) rfl
            · (go_simp; try rfl)
            apply rp_skip 39 rfl (by kernel_rfl) (fun _ _ _ h => h) rfl
            · (go_simp; try rfl)
            apply rp_skip 40 rfl (by kernel_rfl) (fun _ _ _ h => h) rfl
            · (go_simp; try rfl)
            apply rp_skip 41 rfl (by kernel_rfl) (fun _ _ _ h => h) rfl
            · (go_simp; try rfl)
            apply rp_skip 42 rfl (by kernel_rfl) (fun _ _ _ h => h) rfl
            · (go_simp; try rfl)
            apply rp_skip 43 rfl (by kernel_rfl) (fun _ _ _ h => h) rfl
            · (go_simp; try rfl)
            apply rp_skip 44 rfl (by kernel_rfl) (fun _ _ _ h => h) rfl
            · (go_simp; try rfl)
            apply rp_pure 45 rfl (by kernel_rfl) (fun _ _ _ h => h) rfl
            · (intro W; go_simp; try rfl)
            · (go_simp; try rfl)
            apply rp_pure 46 rfl (by kernel_rfl) (fun _ _ _ h => h) rfl
            · (intro W; go_simp; try rfl)
            · (go_simp; try rfl)
            apply rp_skip 47 rfl (by kernel_rfl) (fun _ _ _ h => h) rfl
            · (go_simp; try rfl)
            apply rp_skip 48 rfl (by kernel_rfl) (fun _ _ _ h => h) rfl
            · (go_simp; try rfl)
            apply rp_skip 49 rfl (by kernel_rfl) (fun _ _ _ h => h) rfl
            · (go_simp; try rfl)
            apply rp_skip 50 rfl (by kernel_rfl) (fun _ _ _ h => h) rfl
            · (go_simp; try rfl)
            apply rp_skip 51 rfl (by kernel_rfl) (fun _ _ _ h => h) rfl
            · (go_simp; try rfl)
            apply rp_skip 52 rfl (by kernel_rfl) (fun _ _ _ h => h) rfl
            · (go_simp; try rfl)
            apply rp_skip 53 rfl (by kernel_rfl) (fun _ _ _ h => h) rfl
            · (go_simp; try rfl)
            apply rp_skip 54 rfl (by kernel_rfl) (fun _ _ _ h => h) rfl
            · (go_simp; try rfl)
            apply rp_skip 55 rfl (by kernel_rfl) (fun _ _ _ h => h) rfl
            · (go_simp; try rfl)
            apply rp_pure 56 rfl (by kernel_rfl) (fun _ _ _ h => h) rfl
            · (intro W; go_simp; try rfl)
            · (go_simp; try rfl)
            refine rp_done (by kernel_rfl) ?_
            go_wp2
            go_ret
            rw [hE.out]
            exact ⟨rfl, HD2.out⟩
          have e8 := Lib.hid (oneL_mid Hr.out h8 h1)
          by_cases h0 : l[j + 1].writer < 0
          · by_cases hz : l[j + 1].reads.length = 0
            · have hE := Lib.hid (okL_one hlt (show oneL l[j + 1] = false by rw [e8.out]; exact mx1 hz (by omega)))
              have hz' : ((l[j + 1].reads.length : Int) == 0) = true := by simp [hz]
              have Hz := Lib.hid hz; clear hz
              apply rp_pure 22 rfl (by kernel_rfl) (fun _ _ _ h => h) rfl
              · (intro W; go_simp; try rfl)
              · (go_simp; try rfl)
              apply rp_pure 23 rfl (by kernel_rfl) (fun _ _ _ h => h) rfl
              · (intro W; go_simp; try rfl)
              · (go_simp; try rfl)
              apply rp_pure 24 rfl (by kernel_rfl) (fun _ _ _ h => h) rfl
              · (intro W; go_simp; try rfl)
              · (go_simp; try rfl)
              apply rp_pure 25 rfl (by kernel_rfl) (fun _ _ _ h => h) rfl
              · (intro W; go_simp; try rfl)
              · (go_simp; try rfl)
              apply rp_take 26 rfl (by kernel_rfl) (fun _ _ _ h => h) (hS2.out) rfl
              · (rintro W ⟨s0, s1, s2, s3⟩; go_simp; try rfl)
              · (go_simp; try rfl)
              apply rp_pure 27 rfl (by kernel_rfl) (fun _ _ _ h => h) rfl
              · (intro W; go_simp; try rfl)
              · (go_simp; try rfl)
              apply rp_pure 28 rfl (by kernel_rfl) (fun _ _ _ h => h) rfl
              · (intro W; go_simp; try rfl)
              · (go_simp; try rfl)
              apply rp_pure 29 rfl (by kernel_rfl) (fun _ _ _ h => h) rfl
              · (intro W; go_simp; try rfl)
              · (go_simp; try rfl)
              apply rp_pure 30 rfl (by kernel_rfl) (fun _ _ _ h => h) rfl
              · (intro W; go_simp; try rfl)
              · (go_simp; try rfl)
              apply rp_pure 31 rfl (by kernel_rfl) (fun _ _ _ h => h) rfl
              · (intro W; go_simp; try rfl)
              · (go_simp; try rfl)
              apply rp_take 32 rfl (by kernel_rfl) (fun _ _ _ h => h) (hS2.out) rfl
              · (rintro W ⟨s0, s1, s2, s3⟩; go_simp; try rfl)
              · (go_simp; try rfl)
              apply rp_pure 33 rfl (by kernel_rfl) (fun _ _ _ h => h) rfl
              · (intro W; go_simp; try rfl)
              · (go_simp; try rfl)
              apply rp_pure 34 rfl (by kernel_rfl) (fun _ _ _ h => h) rfl
              · (intro W; go_simp; try rfl)
              · (go_simp; try rfl)
              apply rp_pure 35 rfl (by kernel_rfl) (fun _ _ _ h => h) rfl
              · (intro W; go_simp; try rfl)
              · (go_simp; try rfl)
              apply rp_pure 36 rfl (by kernel_rfl) (fun _ _ _ h => h) rfl
              · (intro W; go_simp; try rfl)
              · (go_simp; try rfl)
              apply rp_take 37 rfl (by kernel_rfl) (fun _ _ _ h => h) (hS2.out) rfl
              · (rintro W ⟨s0, s1, s2, s3⟩; go_simp; try rfl)
              · (go_simp; try rfl)
              apply rp_pure 38 rfl (by kernel_rfl) (fun _ _ _ h => h) rfl
              · (intro W; go_simp; try rfl)
              · (go_simp; try rfl)
              apply rp_pure 39 rfl (by kernel_rfl) (fun _ _ _ h => h) rfl
              · (intro W; go_simp; try rfl)
              · (go_simp; try rfl)
              apply rp_pure 40 rfl (by kernel_rfl) (fun _ _ _ h => h) rfl
              · (intro W; go_simp; try rfl)
              · (go_simp; try rfl)
              apply rp_take 41 rfl (by kernel_rfl) (fun _ _ _ h => h) (hS2.out) rfl
              · (rintro W ⟨s0, s1, s2, s3⟩; go_simp; try rfl)
              · (go_simp; try rfl)
              apply rp_pure 42 rfl (by kernel_rfl) (fun _ _ _ h => h) rfl
              · (intro W; go_simp; try rfl)
              · (go_simp; try rfl)
              apply rp_pure 43 rfl (by kernel_rfl) (fun _ _ _ h => h) rfl
              · (intro W; go_simp; try rfl)
              · (go_simp; try rfl)
              apply rp_pure 44 rfl (by kernel_rfl) (fun _ _ _ h => h) rfl
              · (intro W; go_simp; try rfl)
              · (go_simp; try rfl)
              apply rp_pure 45 rfl (by kernel_rfl) (fun _ _ _ h => h) rfl
              · (intro W; go_simp; try rfl)
              · (go_simp; try rfl)
              apply rp_pure 46 rfl (by kernel_rfl) (fun _ _ _ h => h) rfl
              · (intro W; go_simp; try rfl)
              · (go_simp; try rfl)
              apply rp_skip 47 rfl (by kernel_rfl) (fun _ _ _ h => h) rfl
              · (go_simp; try rfl)
              apply rp_skip 48 rfl (by kernel_rfl) (fun _ _ _ h => h) rfl
              · (go_simp; try rfl)
              apply rp_skip 49 rfl (by kernel_rfl) (fun _ _ _ h => h) rfl
              · (go_simp; try rfl)
              apply rp_skip 50 rfl (by kernel_rfl) (fun _ _ _ h => h) rfl
              · (go_simp; try rfl)
              apply rp_skip 51 rfl (by kernel_rfl) (fun _ _ _ h => h) rfl
              · (go_simp; try rfl)
              apply rp_skip 52 rfl (by kernel_rfl) (fun _ _ _ h => h) rfl
              · (go_simp; try rfl)
              apply rp_skip 53 rfl (by kernel_rfl) (fun _ _ _ h => h) rfl
              · (go_simp; try rfl)
              apply rp_skip 54 rfl (by kernel_rfl) (fun _ _ _ h => h) rfl
              · (go_simp; try rfl)
              apply rp_skip 55 rfl (by kernel_rfl) (fun _ _ _ h => h) rfl
              · (go_simp; try rfl)
              apply rp_pure 56 rfl (by kernel_rfl) (fun _ _ _ h => h) rfl
              · (intro W; go_simp; try rfl)
              · (go_simp; try rfl)
              refine rp_done (by kernel_rfl) ?_
              go_wp2
              go_ret
              rw [hE.out]
              exact ⟨rfl, HD2.out⟩
            · have hE := Lib.hid (okP_oneS hlt hR.out hle (show oneL l[j + 1] = true by rw [e8.out]; exact mx2 hz (by omega)))
              have hz' : ((l[j + 1].reads.length : Int) == 0) = false := by rw [beq_eq_false_iff_ne]; omega
              have hg0 : decide ((0 : Int) ≤ l[j + 1].writer) = false := decide_eq_false (by omega)
              apply rp_pure 22 rfl (by kernel_rfl) (fun _ _ _ h => h) rfl
              · (intro W; go_simp; try rfl)
              · (go_simp; try rfl)
              apply rp_pure 23 rfl (by kernel_rfl) (fun _ _ _ h => h) rfl
              · (intro W; go_simp; try rfl)
              · (go_simp; try rfl)
              apply rp_pure 24 rfl (by kernel_rfl) (fun _ _ _ h => h) rfl
              · (intro W; go_simp; try rfl)
              · (go_simp; try rfl)
              apply rp_pure 25 rfl (by kernel_rfl) (fun _ _ _ h => h) rfl
              · (intro W; go_simp; try rfl)
              · (go_simp; try rfl)
              apply rp_take 26 rfl (by kernel_rfl) (fun _ _ _ h => h) (hS2.out) rfl
              · (rintro W ⟨s0, s1, s2, s3⟩; go_simp; try rfl)
              · (go_simp; try rfl)
              apply rp_pure 27 rfl (by kernel_rfl) (fun _ _ _ h => h) rfl
              · (intro W; go_simp; try rfl)
              · (go_simp; try rfl)
              apply rp_pure 28 rfl (by kernel_rfl) (fun _ _ _ h => h) rfl
              · (intro W; go_simp; try rfl)
              · (go_simp; try rfl)
              apply rp_pure 29 rfl (by kernel_rfl) (fun _ _ _ h => h) rfl
              · (intro W; go_simp; try rfl)
              · (go_simp; try rfl)
              apply rp_pure 30 rfl (by kernel_rfl) (fun _ _ _ h => h) rfl
              · (intro W; go_simp; try rfl)
              · (go_simp; try rfl)
              apply rp_pure 31 rfl (by kernel_rfl) (fun _ _ _ h => h) rfl
              · (intro W; go_simp; try rfl)
              · (go_simp; try rfl)
              apply rp_take 32 rfl (by kernel_rfl) (fun _ _ _ h => h) (hS2.out) rfl
              · (rintro W ⟨s0, s1, s2, s3⟩; go_simp; try rfl)
              · (go_simp; try rfl)
              apply rp_pure 33 rfl (by kernel_rfl) (fun _ _ _ h => h) rfl
              · (intro W; go_simp; try rfl)
              · (go_simp; try rfl)
              apply rp_pure 34 rfl (by kernel_rfl) (fun _ _ _ h => h) rfl
              · (intro W; go_simp; try rfl)
              · (go_simp; try rfl)
              apply rp_pure 35 rfl (by kernel_rfl) (fun _ _ _ h => h) rfl
              · (intro W; go_simp; try rfl)
              · (go_simp; try rfl)
              apply rp_pure 36 rfl (by kernel_rfl) (fun _ _ _ h => h) rfl
              · (intro W; go_simp; try rfl)
              · (go_simp; try rfl)
              apply rp_take 37 rfl (by kernel_rfl) (fun _ _ _ h => h) (hS2.out) rfl
              · (rintro W ⟨s0, s1, s2, s3⟩; go_simp; try rfl)
              · (go_simp; try rfl)
              apply rp_pure 38 rfl (by kernel_rfl) (fun _ _ _ h => h) rfl
              · (intro W; go_simp; try rfl)
              · (go_simp; try rfl)
              apply rp_pure 39 rfl (by kernel_rfl) (fun _ _ _ h => h) rfl
              · (intro W; go_simp; try rfl)
              · (go_simp; try rfl)
              apply rp_pure 40 rfl (by kernel_rfl) (fun _ _ _ h => h) rfl
              · (intro W; go_simp; try rfl)
              · (go_simp; try rfl)
              apply rp_take 41 rfl (by kernel_rfl) (fun _ _ _ h => h) (hS2.out) rfl
              · (rintro W ⟨s0, s1, s2, s3⟩; go_simp; try rfl)
              · (go_simp; try rfl)
              apply rp_pure 42 rfl (by kernel_rfl) (fun _ _ _ h => h) rfl
              · (intro W; go_simp; try rfl)
              · (go_simp; try rfl)
              apply rp_pure 43 rfl (by kernel_rfl) (fun _ _ _ h => h) rfl
              · (intro W; go_simp; try rfl)
              · (go_simp; try rfl)
              apply rp_pure 44 rfl (by kernel_rfl) (fun _ _ _ h => h) rfl
              · (intro W; go_simp; try rfl)
              · (go_simp; try rfl)
              apply rp_pure 45 rfl (by kernel_rfl) (fun _ _ _ h => h) rfl
              · (intro W; go_simp; try rfl)
              · (go_simp; try rfl)
              apply rp_pure 46 rfl (by kernel_rfl) (fun _ _ _ h => h) rfl
              · (intro W; go_simp; try rfl)
              · (go_simp; try rfl)
              apply rp_pure 47 rfl (by kernel_rfl) (fun _ _ _ h => h) rfl
              · (intro W; go_simp; try rfl)
              · (go_simp; try rfl)
              apply rp_take 48 rfl (by kernel_rfl) (fun _ _ _ h => h) (hS2.out) rfl
              · (rintro W ⟨s0, s1, s2, s3⟩; go_simp; try rfl)
              · (go_simp; try rfl)
              apply rp_pure 49 rfl (by kernel_rfl) (fun _ _ _ h => h) rfl
              · (intro W; go_simp; try rfl)
              · (go_simp; try rfl)
              apply rp_pure 50 rfl (by kernel_rfl) (fun _ _ _ h => h) rfl
              · (intro W; go_simp; try rfl)
              · (go_simp; try rfl)
              apply rp_skip 51 rfl (by kernel_rfl) (fun _ _ _ h => h) rfl
              · (go_simp; try rfl)
              apply rp_skip 52 rfl (by kernel_rfl) (fun _ _ _ h => h) rfl
              · (go_simp; try rfl)
              apply rp_skip 53 rfl (by kernel_rfl) (fun _ _ _ h => h) rfl
              · (go_simp; try rfl)
              apply rp_skip 54 rfl (by kernel_rfl) (fun _ _ _ h => h) rfl
              · (go_simp; try rfl)
              apply rp_pure 55 rfl (by kernel_rfl) (fun _ _ _ h => h) rfl
              · (intro W; go_simp; try rfl)
              · (go_simp; try rfl)
              apply rp_pure 56 rfl (by kernel_rfl) (fun _ _ _ h => h) rfl
              · (intro W; go_simp; try rfl)
              · (go_simp; try rfl)
              refine rp_done (by kernel_rfl) ?_
              go_wp2
              go_roundw
              case rel => exact ⟨HD2.out, j + 2, by omega, by go_num, hE⟩
              case measure => simp [intOf]; omega
          · have hg0 : (0 : Int) ≤ l[j + 1].writer := by omega
            by_cases hz : 0 < l[j + 1].reads.length
            · have hE := Lib.hid (okL_one hlt (show oneL l[j + 1] = false by rw [e8.out]; exact mx3 hz hg0))
              have hz' : (0 : Int) < l[j + 1].reads.length := by omega
              apply rp_pure 22 rfl (by kernel_rfl) (fun _ _ _ h => h) rfl
              · (intro W; go_simp; try rfl)
              · (go_simp; try rfl)
              apply rp_pure 23 rfl (by kernel_rfl) (fun _ _ _ h => h) rfl
              · (intro W; go_simp; try rfl)
              · (go_simp; try rfl)
              apply rp_pure 24 rfl (by kernel_rfl) (fun _ _ _ h => h) rfl
              · (intro W; go_simp; try rfl)
              · (go_simp; try rfl)
              apply rp_pure 25 rfl (by kernel_rfl) (fun _ _ _ h => h) rfl
              · (intro W; go_simp; try rfl)
              · (go_simp; try rfl)
              apply rp_take 26 rfl (by kernel_rfl) (fun _ _ _ h => h) (hS2.out) rfl
              · (rintro W ⟨s0, s1, s2, s3⟩; go_simp; try rfl)
              · (go_simp; try rfl)
              apply rp_pure 27 rfl (by kernel_rfl) (fun _ _ _ h => h) rfl
              · (intro W; go_simp; try rfl)
              · (go_simp; try rfl)
              apply rp_pure 28 rfl (by kernel_rfl) (fun _ _ _ h => h) rfl
              · (intro W; go_simp; try rfl)
              · (go_simp; try rfl)
              apply rp_pure 29 rfl (by kernel_rfl) (fun _ _ _ h => h) rfl
              · (intro W; go_simp; try rfl)
              · (go_simp; try rfl)
              apply rp_pure 30 rfl (by kernel_rfl) (fun _ _ _ h => h) rfl
              · (intro W; go_simp; try rfl)
              · (go_simp; try rfl)
              apply rp_pure 31 rfl (by kernel_rfl) (fun _ _ _ h => h) rfl
              · (intro W; go_simp; try rfl)
              · (go_simp; try rfl)
              apply rp_take 32 rfl (by kernel_rfl) (fun _ _ _ h => h) (hS2.out) rfl
              · (rintro W ⟨s0, s1, s2, s3⟩; go_simp; try rfl)
              · (go_simp; try rfl)
              apply rp_pure 33 rfl (by kernel_rfl) (fun _ _ _ h => h) rfl
              · (intro W; go_simp; try rfl)
              · (go_simp; try rfl)
              apply rp_pure 34 rfl (by kernel_rfl) (fun _ _ _ h => h) rfl
              · (intro W; go_simp; try rfl)
              · (go_simp; try rfl)
              apply rp_pure 35 rfl (by kernel_rfl) (fun _ _ _ h => h) rfl
              · (intro W; go_simp; try rfl)
              · (go_simp; try rfl)
              apply rp_pure 36 rfl (by kernel_rfl) (fun _ _ _ h => h) rfl
              · (intro W; go_simp; try rfl)
              · (go_simp; try rfl)
              apply rp_take 37 rfl (by kernel_rfl) (fun _ _ _ h => h) (hS2.out) rfl
              · (rintro W ⟨s0, s1, s2, s3⟩; go_simp; try rfl)
              · (go_simp; try rfl)
              apply rp_pure 38 rfl (by kernel_rfl) (fun _ _ _ h => h) rfl
              · (intro W; go_simp; try rfl)
              · (go_simp; try rfl)
              apply rp_pure 39 rfl (by kernel_rfl) (fun _ _ _ h => h) rfl
              · (intro W; go_simp; try rfl)
              · (go_simp; try rfl)
              apply rp_skip 40 rfl (by kernel_rfl) (fun _ _ _ h => h) rfl
              · (go_simp; try rfl)
              apply rp_skip 41 rfl (by kernel_rfl) (fun _ _ _ h => h) rfl
              · (go_simp; try rfl)
              apply rp_skip 42 rfl (by kernel_rfl) (fun _ _ _ h => h) rfl
              · (go_simp; try rfl)
              apply rp_skip 43 rfl (by kernel_rfl) (fun _ _ _ h => h) rfl
              · (go_simp; try rfl)
              apply rp_pure 44 rfl (by kernel_rfl) (fun _ _ _ h => h) rfl
              · (intro W; go_simp; try rfl)
              · (go_simp; try rfl)
              apply rp_pure 45 rfl (by kernel_rfl) (fun _ _ _ h => h) rfl
              · (intro W; go_simp; try rfl)
              · (go_simp; try rfl)
              apply rp_pure 46 rfl (by kernel_rfl) (fun _ _ _ h => h) rfl
              · (intro W; go_simp; try rfl)
              · (go_simp; try rfl)
              apply rp_pure 47 rfl (by kernel_rfl) (fun _ _ _ h => h) rfl
              · (intro W; go_simp; try rfl)
              · (go_simp; try rfl)
              apply rp_take 48 rfl (by kernel_rfl) (fun _ _ _ h => h) (hS2.out) rfl
              · (rintro W ⟨s0, s1, s2, s3⟩; go_simp; try rfl)
              · (go_simp; try rfl)
              apply rp_pure 49 rfl (by kernel_rfl) (fun _ _ _ h => h) rfl
              · (intro W; go_simp; try rfl)
              · (go_simp; try rfl)
              apply rp_pure 50 rfl (by kernel_rfl) (fun _ _ _ h => h) rfl
              · (intro W; go_simp; try rfl)
              · (go_simp; try rfl)
              apply rp_pure 51 rfl (by kernel_rfl) (fun _ _ _ h => h) rfl
              · (intro W; go_simp; try rfl)
              · (go_simp; try rfl)
              apply rp_take 52 rfl (by kernel_rfl) (fun _ _ _ h => h) (hS2.out) rfl
              · (rintro W ⟨s0, s1, s2, s3⟩; go_simp; try rfl)
              · (go_simp; try rfl)
              apply rp_pure 53 rfl (by kernel_rfl) (fun _ _ _ h => h) rfl
              · (intro W; go_simp; try rfl)
              · (go_simp; try rfl)
              apply rp_pure 54 rfl (by kernel_rfl) (fun _ _ _ h => h) rfl
              · (intro W; go_simp; try rfl)
              · (go_simp; try rfl)
              apply rp_pure 55 rfl (by kernel_rfl) (fun _ _ _ h => h) rfl
              · (intro W; go_simp; try rfl)
              · (go_simp; try rfl)
              apply rp_pure 56 rfl (by kernel_rfl) (fun _ _ _ h => h) rfl
              · (intro W; go_simp; try rfl)
              · (go_simp; try rfl)
              refine rp_done (by kernel_rfl) ?_
              go_wp2
              go_ret
              rw [hE.out]
              exact ⟨rfl, HD2.out⟩
            · have hE := Lib.hid (okP_oneS hlt hR.out hle (show oneL l[j + 1] = true by rw [e8.out]; exact mx4 hz hg0))
              have hz' : ¬ (0 : Int) < l[j + 1].reads.length := by omega
              apply rp_pure 22 rfl (by kernel_rfl) (fun _ _ _ h => h) rfl
              · (intro W; go_simp; try rfl)
              · (go_simp; try rfl)
              apply rp_pure 23 rfl (by kernel_rfl) (fun _ _ _ h => h) rfl
              · (intro W; go_simp; try rfl)
              · (go_simp; try rfl)
              apply rp_pure 24 rfl (by kernel_rfl) (fun _ _ _ h => h) rfl
              · (intro W; go_simp; try rfl)
              · (go_simp; try rfl)
              apply rp_pure 25 rfl (by kernel_rfl) (fun _ _ _ h => h) rfl
              · (intro W; go_simp; try rfl)
              · (go_simp; try rfl)
              apply rp_take 26 rfl (by kernel_rfl) (fun _ _ _ h => h) (hS2.out) rfl
              · (rintro W ⟨s0, s1, s2, s3⟩; go_simp; try rfl)
              · (go_simp; try rfl)
              apply rp_pure 27 rfl (by kernel_rfl) (fun _ _ _ h => h) rfl
              · (intro W; go_simp; try rfl)
              · (go_simp; try rfl)
              apply rp_pure 28 rfl (by kernel_rfl) (fun _ _ _ h => h) rfl
              · (intro W; go_simp; try rfl)
              · (go_simp; try rfl)
              apply rp_pure 29 rfl (by kernel_rfl) (fun _ _ _ h => h) rfl
              · (intro W; go_simp; try rfl)
              · (go_simp; try rfl)
              apply rp_pure 30 rfl (by kernel_rfl) (fun _ _ _ h => h) rfl
              · (intro W; go_simp; try rfl)
              · (go_simp; try rfl)
              apply rp_pure 31 rfl (by kernel_rfl) (fun _ _ _ h => h) rfl
              · (intro W; go_simp; try rfl)
              · (go_simp; try rfl)
              apply rp_take 32 rfl (by kernel_rfl) (fun _ _ _ h => h) (hS2.out) rfl
              · (rintro W ⟨s0, s1, s2, s3⟩; go_simp; try rfl)
              · (go_simp; try rfl)
              apply rp_pure 33 rfl (by kernel_rfl) (fun _ _ _ h => h) rfl
              · (intro W; go_simp; try rfl)
              · (go_simp; try rfl)
              apply rp_pure 34 rfl (by kernel_rfl) (fun _ _ _ h => h) rfl
              · (intro W; go_simp; try rfl)
              · (go_simp; try rfl)
              apply rp_pure 35 rfl (by kernel_rfl) (fun _ _ _ h => h) rfl
              · (intro W; go_simp; try rfl)
              · (go_simp; try rfl)
              apply rp_pure 36 rfl (by kernel_rfl) (fun _ _ _ h => h) rfl
              · (intro W; go_simp; try rfl)
              · (go_simp; try rfl)
              apply rp_take 37 rfl (by kernel_rfl) (fun _ _ _ h => h) (hS2.out) rfl
              · (rintro W ⟨s0, s1, s2, s3⟩; go_simp; try rfl)
              · (go_simp; try rfl)
              apply rp_pure 38 rfl (by kernel_rfl) (fun _ _ _ h => h) rfl
              · (intro W; go_simp; try rfl)
              · (go_simp; try rfl)
              apply rp_pure 39 rfl (by kernel_rfl) (fun _ _ _ h => h) rfl
              · (intro W; go_simp; try rfl)
              · (go_simp; try rfl)
              apply rp_skip 40 rfl (by kernel_rfl) (fun _ _ _ h => h) rfl
              · (go_simp; try rfl)
              apply rp_skip 41 rfl (by kernel_rfl) (fun _ _ _ h => h) rfl
              · (go_simp; try rfl)
              apply rp_skip 42 rfl (by kernel_rfl) (fun _ _ _ h => h) rfl
              · (go_simp; try rfl)
              apply rp_skip 43 rfl (by kernel_rfl) (fun _ _ _ h => h) rfl
              · (go_simp; try rfl)
              apply rp_pure 44 rfl (by kernel_rfl) (fun _ _ _ h => h) rfl
              · (intro W; go_simp; try rfl)
              · (go_simp; try rfl)
              apply rp_pure 45 rfl (by kernel_rfl) (fun _ _ _ h => h) rfl
              · (intro W; go_simp; try rfl)
              · (go_simp; try rfl)
              apply rp_pure 46 rfl (by kernel_rfl) (fun _ _ _ h => h) rfl
              · (intro W; go_simp; try rfl)
              · (go_simp; try rfl)
              apply rp_pure 47 rfl (by kernel_rfl) (fun _ _ _ h => h) rfl
              · (intro W; go_simp; try rfl)
              · (go_simp; try rfl)
              apply rp_take 48 rfl (by kernel_rfl) (fun _ _ _ h => h) (hS2.out) rfl
              · (rintro W ⟨s0, s1, s2, s3⟩; go_simp; try rfl)
              · (go_simp; try rfl)
              apply rp_pure 49 rfl (by kernel_rfl) (fun _ _ _ h => h) rfl
              · (intro W; go_simp; try rfl)
              · (go_simp; try rfl)
              apply rp_pure 50 rfl (by kernel_rfl) (fun _ _ _ h => h) rfl
              · (intro W; go_simp; try rfl)
              · (go_simp; try rfl)
              apply rp_pure 51 rfl (by kernel_rfl) (fun _ _ _ h => h) rfl
              · (intro W; go_simp; try rfl)
              · (go_simp; try rfl)
              apply rp_take 52 rfl (by kernel_rfl) (fun _ _ _ h => h) (hS2.out) rfl
              · (rintro W ⟨s0, s1, s2, s3⟩; go_simp; try rfl)
              · (go_simp; try rfl)
              apply rp_pure 53 rfl (by kernel_rfl) (fun _ _ _ h => h) rfl
              · (intro W; go_simp; try rfl)
              · (go_simp; try rfl)
              apply rp_pure 54 rfl (by kernel_rfl) (fun _ _ _ h => h) rfl
              · (intro W; go_simp; try rfl)
              · (go_simp; try rfl)
              apply rp_pure 55 rfl (by kernel_rfl) (fun _ _ _ h => h) rfl
              · (intro W; go_simp; try rfl)
              · (go_simp; try rfl)
              apply rp_pure 56 rfl (by kernel_rfl) (fun _ _ _ h => h) rfl
              · (intro W; go_simp; try rfl)
              · (go_simp; try rfl)
              refine rp_done (by kernel_rfl) ?_
              go_wp2
              go_roundw
              case rel => exact ⟨HD2.out, j + 2, by omega, by go_num, hE⟩
              case measure => simp [intOf]; omega
    · obtain rfl : k = l.length := by omega
      have hE := Lib.hid (show okL l = true by rw [← okP_all H64.out]; exact hR.out)
      go_wp2
      go_ret
      rw [hE.out]
      exact ⟨rfl, HB.out⟩
end Go.Proofs.Ytombdkdidnoomaa
