/-
Package geom: the address of a copy of a slot of the log; the reference's.
-/
import Derived.Test.YtpknhpfbinplgaaRcSeal
namespace Go.Proofs.Ytpknhpfbinplgaa
open Go.RowKit
attribute [local go_sem ↓] Go.wp_at_zero Go.wp_at_succ

def okL (g : Geo) (copy slot : Int) : Bool := inB copy 0 1 && inB slot 0 (g.sl - 1)
def logAt (g : Geo) (copy slot : Int) : Int := g.an + copy * g.sl + slot

set_option maxRecDepth 100000 in
set_option maxHeartbeats 8000000 in
theorem log_any (g : Geo) (copy slot : Int) (w : World) (hg : okG g = true) :
    Calls Try.prog 47 #[gv g, .int .i64 copy, .int .i64 slot] w fun e w' => e = .returned (if okL g copy slot then .tuple #[.int .i64 (logAt g copy slot), .int .i64 0] else .tuple #[.int .i64 0, .int .i64 1]) ∧ Below w.heap.size w w' := by
  obtain ⟨z, d, sp, sl, an⟩ := g
  have HOK := Lib.hid hg
  obtain ⟨-, -, -, hs, ha⟩ := okG_iff.1 hg
  have hs1 : (14 : Int) ≤ sl := hs.1
  have hs2 : sl ≤ 30 := hs.2
  have ha1 : (1 : Int) ≤ an := ha.1
  have ha2 : an ≤ 3 := ha.2
  have hws : IntKind.i64.wrap (sl - 1) = sl - 1 := by rw [IntKind.wrap_i64]; omega
  have hE := Lib.hid (show okL ⟨z, d, sp, sl, an⟩ copy slot = (inB copy 0 1 && inB slot 0 (sl - 1)) from rfl)
  have hV : inB copy 0 1 = true → inB slot 0 (sl - 1) = true → IntKind.i64.wrap (IntKind.i64.wrap (an + IntKind.i64.wrap (copy * sl)) + slot) = an + copy * sl + slot := by
    intro h1 h2
    obtain ⟨c1, c2⟩ := inB_iff.1 h1
    obtain ⟨c3, c4⟩ := inB_iff.1 h2
    rcases (show copy = 0 ∨ copy = 1 by omega) with rfl | rfl
    · rw [Int.zero_mul, IntKind.wrap_i64, IntKind.wrap_i64, IntKind.wrap_i64]; omega
    · rw [Int.one_mul, IntKind.wrap_i64, IntKind.wrap_i64, IntKind.wrap_i64]; omega
  obtain ⟨m1, hm1⟩ : ∃ m1, IntKind.i64.wrap (copy * sl) = m1 := ⟨_, rfl⟩
  rw [hm1] at hV
  obtain ⟨m2, hm2⟩ : ∃ m2, IntKind.i64.wrap (an + m1) = m2 := ⟨_, rfl⟩
  rw [hm2] at hV
  obtain ⟨m3, hm3⟩ : ∃ m3, IntKind.i64.wrap (m2 + slot) = m3 := ⟨_, rfl⟩
  rw [hm3] at hV
  have HV := Lib.hid hV
  have hbA := (Below.refl w.heap.size w).alloc (Nat.le_refl _) (.cells #[.int .i64 z, .int .i64 d, .int .i64 sp, .int .i64 sl, .int .i64 an] 23)
  have HB := Lib.hid hbA.drew
  have HG := Lib.hid (Blk.new w 23 #[.int .i64 z, .int .i64 d, .int .i64 sp, .int .i64 sl, .int .i64 an]).drew
  have hin1 := fun w => gin_any copy 0 1 w
  have hin2 := fun w => gin_any slot 0 (sl - 1) w
  unfold gv
  simp only
  clear hbA hg hs ha hV
  cases hq1 : inB copy 0 1 with
  | false =>
    have hto := Lib.hid (told_any ⟨z, d, sp, sl, an⟩ m3 false (w.alloc (.cells #[.int .i64 z, .int .i64 d, .int .i64 sp, .int .i64 sl, .int .i64 an] 23)).drew)
    rw [HOK.out] at hto
    unfold gv at hto
    simp only [Bool.and_true, Bool.and_false, Bool.true_and, if_true, Bool.false_eq_true, if_false] at hto
    have hf : (false : Bool) = okL ⟨z, d, sp, sl, an⟩ copy slot := by rw [hE.out, hq1]; rfl
    rw [← hf, if_neg (by simp)]
    rw [hq1] at hin1
    clear hE hf hq1 HV
    go_enter Try.func47, Try.ntmps47
    go_wp2_with fail
    refine rp_enter [0, 2, 5, 15] (fun V => ∀ i, V.cell? ⟨w.heap.size, i, none⟩ = #[.int .i64 z, .int .i64 d, .int .i64 sp, .int .i64 sl, .int .i64 an][i]?) (by kernel_rfl) ?_
    have hS := Lib.hid HG.out.cell
    apply rp_take 0 rfl (by kernel_rfl) (fun _ _ _ h => h) (hS.out) rfl
    · (rintro W' hW; go_simp; try rfl)
    · (go_simp; try rfl)
    apply rp_pure 1 rfl (by kernel_rfl) (fun _ _ _ h => h) rfl
    · (intro W'; go_simp; try rfl)
    · (go_simp; try rfl)
    apply rp_take 2 rfl (by kernel_rfl) (fun _ _ _ h => h) (hS.out) rfl
    · (rintro W' hW; go_simp; try rfl)
    · (go_simp; try rfl)
    apply rp_pure 3 rfl (by kernel_rfl) (fun _ _ _ h => h) rfl
    · (intro W'; go_simp; try rfl)
    · (go_simp; try rfl)
    apply rp_pure 4 rfl (by kernel_rfl) (fun _ _ _ h => h) rfl
    · (intro W'; go_simp; try rfl)
    · (go_simp; try rfl)
    apply rp_take 5 rfl (by kernel_rfl) (fun _ _ _ h => h) (hS.out) rfl
    · (rintro W' hW; go_simp; try rfl)
    · (go_simp; try rfl)
    apply rp_pure 6 rfl (by kernel_rfl) (fun _ _ _ h => h) rfl
    · (intro W'; go_simp; try rfl)
    · (go_simp; try rfl)
    apply rp_pure 7 rfl (by kernel_rfl) (fun _ _ _ h => h) rfl
    · (intro W'; go_simp; try rfl)
    · (go_simp; try rfl)
    apply rp_pure 8 rfl (by kernel_rfl) (fun _ _ _ h => h) rfl
    · (intro W'; go_simp; try rfl)
    · (go_simp; try rfl)
    apply rp_pure 9 rfl (by kernel_rfl) (fun _ _ _ h => h) rfl
    · (intro W'; go_simp; try rfl)
    · (go_simp; try rfl)
    apply rp_pure 10 rfl (by kernel_rfl) (fun _ _ _ h => h) rfl
    · (intro W'; go_simp; try rfl)
    · (go_simp; try rfl)
    refine rp_only 11 (by kernel_rfl) rfl (fun K hK => ?_)
    go_simp
    ((with_reducible refine (hin1 _).mono ?_); rintro e w1 ⟨rfl, rfl⟩)
    refine hK _ _ ⟨fun _ h => h, ?_⟩; clear hK K
    apply rp_pure 12 rfl (by kernel_rfl) (fun _ _ _ h => h) rfl
    · (intro W'; go_simp; try rfl)
    · (go_simp; try rfl)
    apply rp_skip 13 rfl (by kernel_rfl) (fun _ _ _ h => h) rfl
    · (go_simp; try rfl)
    apply rp_skip 14 rfl (by kernel_rfl) (fun _ _ _ h => h) rfl
    · (go_simp; try rfl)
    apply rp_skip 15 rfl (by kernel_rfl) (fun _ _ _ h => h) rfl
    · (go_simp; try rfl)
    apply rp_skip 16 rfl (by kernel_rfl) (fun _ _ _ h => h) rfl
    · (go_simp; try rfl)
    apply rp_skip 17 rfl (by kernel_rfl) (fun _ _ _ h => h) rfl
    · (go_simp; try rfl)
    apply rp_pure 18 rfl (by kernel_rfl) (fun _ _ _ h => h) rfl
    · (intro W'; go_simp; try rfl)
    · (go_simp; try rfl)
    refine rp_only 19 (by kernel_rfl) rfl (fun K hK => ?_)
    go_simp
    ((with_reducible refine hto.out.mono ?_); rintro e w2 ⟨rfl, hB2⟩)
    have HB2 := Lib.hid (HB.out.trans (hB2.mono HB.out.size))
    refine hK _ _ ⟨fun _ _ => (HG.out.below hB2).cell, ?_⟩; clear hK K hB2
    apply rp_pure 20 rfl (by kernel_rfl) (fun _ _ _ h => h) rfl
    · (intro W'; go_simp; try rfl)
    · (go_simp; try rfl)
    apply rp_pure 21 rfl (by kernel_rfl) (fun _ _ _ h => h) rfl
    · (intro W'; go_simp; try rfl)
    · (go_simp; try rfl)
    apply rp_pure 22 rfl (by kernel_rfl) (fun _ _ _ h => h) rfl
    · (intro W'; go_simp; try rfl)
    · (go_simp; try rfl)
    apply rp_pure 23 rfl (by kernel_rfl) (fun _ _ _ h => h) rfl
    · (intro W'; go_simp; try rfl)
    · (go_simp; try rfl)
    refine rp_done (by kernel_rfl) ?_
    clear hS
    go_wp2
    go_ret2
    exact ⟨rfl, HB2.out⟩
  | true =>
    cases hq2 : inB slot 0 (sl - 1) with
    | false =>
      have hto := Lib.hid (told_any ⟨z, d, sp, sl, an⟩ m3 false (w.alloc (.cells #[.int .i64 z, .int .i64 d, .int .i64 sp, .int .i64 sl, .int .i64 an] 23)).drew)
      rw [HOK.out] at hto
      unfold gv at hto
      simp only [Bool.and_true, Bool.and_false, Bool.true_and, if_true, Bool.false_eq_true, if_false] at hto
      have hf : (false : Bool) = okL ⟨z, d, sp, sl, an⟩ copy slot := by rw [hE.out, hq1, hq2]; rfl
      rw [← hf, if_neg (by simp)]
      rw [hq1] at hin1
      rw [hq2] at hin2
      clear hE hf hq1 hq2 HV
      go_enter Try.func47, Try.ntmps47
      go_wp2_with fail
      refine rp_enter [0, 2, 5, 15] (fun V => ∀ i, V.cell? ⟨w.heap.size, i, none⟩ = #[.int .i64 z, .int .i64 d, .int .i64 sp, .int .i64 sl, .int .i64 an][i]?) (by kernel_rfl) ?_
      have hS := Lib.hid HG.out.cell
      apply rp_take 0 rfl (by kernel_rfl) (fun _ _ _ h => h) (hS.out) rfl
      · (rintro W' hW; go_simp; try rfl)
      · (go_simp; try rfl)
      apply rp_pure 1 rfl (by kernel_rfl) (fun _ _ _ h => h) rfl
      · (intro W'; go_simp; try rfl)
      · (go_simp; try rfl)
      apply rp_take 2 rfl (by kernel_rfl) (fun _ _ _ h => h) (hS.out) rfl
      · (rintro W' hW; go_simp; try rfl)
      · (go_simp; try rfl)
      apply rp_pure 3 rfl (by kernel_rfl) (fun _ _ _ h => h) rfl
      · (intro W'; go_simp; try rfl)
      · (go_simp; try rfl)
      apply rp_pure 4 rfl (by kernel_rfl) (fun _ _ _ h => h) rfl
      · (intro W'; go_simp; try rfl)
      · (go_simp; try rfl)
      apply rp_take 5 rfl (by kernel_rfl) (fun _ _ _ h => h) (hS.out) rfl
      · (rintro W' hW; go_simp; try rfl)
      · (go_simp; try rfl)
      apply rp_pure 6 rfl (by kernel_rfl) (fun _ _ _ h => h) rfl
      · (intro W'; go_simp; try rfl)
      · (go_simp; try rfl)
      apply rp_pure 7 rfl (by kernel_rfl) (fun _ _ _ h => h) rfl
      · (intro W'; go_simp; try rfl)
      · (go_simp; try rfl)
      apply rp_pure 8 rfl (by kernel_rfl) (fun _ _ _ h => h) rfl
      · (intro W'; go_simp; try rfl)
      · (go_simp; try rfl)
      apply rp_pure 9 rfl (by kernel_rfl) (fun _ _ _ h => h) rfl
      · (intro W'; go_simp; try rfl)
      · (go_simp; try rfl)
      apply rp_pure 10 rfl (by kernel_rfl) (fun _ _ _ h => h) rfl
      · (intro W'; go_simp; try rfl)
      · (go_simp; try rfl)
      refine rp_only 11 (by kernel_rfl) rfl (fun K hK => ?_)
      go_simp
      ((with_reducible refine (hin1 _).mono ?_); rintro e w1 ⟨rfl, rfl⟩)
      refine hK _ _ ⟨fun _ h => h, ?_⟩; clear hK K
      apply rp_pure 12 rfl (by kernel_rfl) (fun _ _ _ h => h) rfl
      · (intro W'; go_simp; try rfl)
      · (go_simp; try rfl)
      apply rp_pure 13 rfl (by kernel_rfl) (fun _ _ _ h => h) rfl
      · (intro W'; go_simp; try rfl)
      · (go_simp; try rfl)
      apply rp_pure 14 rfl (by kernel_rfl) (fun _ _ _ h => h) rfl
      · (intro W'; go_simp; try rfl)
      · (go_simp; try rfl)
      apply rp_take 15 rfl (by kernel_rfl) (fun _ _ _ h => h) (hS.out) rfl
      · (rintro W' hW; go_simp; try rfl)
      · (go_simp; try rfl)
      apply rp_pure 16 rfl (by kernel_rfl) (fun _ _ _ h => h) rfl
      · (intro W'; go_simp; try rfl)
      · (go_simp; try rfl)
      refine rp_only 17 (by kernel_rfl) rfl (fun K hK => ?_)
      go_simp
      ((with_reducible refine (hin2 _).mono ?_); rintro e w1 ⟨rfl, rfl⟩)
      refine hK _ _ ⟨fun _ h => h, ?_⟩; clear hK K
      apply rp_pure 18 rfl (by kernel_rfl) (fun _ _ _ h => h) rfl
      · (intro W'; go_simp; try rfl)
      · (go_simp; try rfl)
      refine rp_only 19 (by kernel_rfl) rfl (fun K hK => ?_)
      go_simp
      ((with_reducible refine hto.out.mono ?_); rintro e w2 ⟨rfl, hB2⟩)
      have HB2 := Lib.hid (HB.out.trans (hB2.mono HB.out.size))
      refine hK _ _ ⟨fun _ _ => (HG.out.below hB2).cell, ?_⟩; clear hK K hB2
      apply rp_pure 20 rfl (by kernel_rfl) (fun _ _ _ h => h) rfl
      · (intro W'; go_simp; try rfl)
      · (go_simp; try rfl)
      apply rp_pure 21 rfl (by kernel_rfl) (fun _ _ _ h => h) rfl
      · (intro W'; go_simp; try rfl)
      · (go_simp; try rfl)
      apply rp_pure 22 rfl (by kernel_rfl) (fun _ _ _ h => h) rfl
      · (intro W'; go_simp; try rfl)
      · (go_simp; try rfl)
      apply rp_pure 23 rfl (by kernel_rfl) (fun _ _ _ h => h) rfl
      · (intro W'; go_simp; try rfl)
      · (go_simp; try rfl)
      refine rp_done (by kernel_rfl) ?_
      clear hS
      go_wp2
      go_ret2
      exact ⟨rfl, HB2.out⟩
    | true =>
      have hto := Lib.hid (told_any ⟨z, d, sp, sl, an⟩ m3 true (w.alloc (.cells #[.int .i64 z, .int .i64 d, .int .i64 sp, .int .i64 sl, .int .i64 an] 23)).drew)
      rw [HOK.out] at hto
      unfold gv at hto
      simp only [Bool.and_true, Bool.and_false, Bool.true_and, if_true, Bool.false_eq_true, if_false] at hto
      have hf : (true : Bool) = okL ⟨z, d, sp, sl, an⟩ copy slot := by rw [hE.out, hq1, hq2]; rfl
      have hl : logAt ⟨z, d, sp, sl, an⟩ copy slot = m3 := (HV.out hq1 hq2).symm
      rw [← hf, hl, if_pos rfl]
      rw [hq1] at hin1
      rw [hq2] at hin2
      clear hE hf hq1 hq2 hl HV
      go_enter Try.func47, Try.ntmps47
      go_wp2_with fail
      refine rp_enter [0, 2, 5, 15] (fun V => ∀ i, V.cell? ⟨w.heap.size, i, none⟩ = #[.int .i64 z, .int .i64 d, .int .i64 sp, .int .i64 sl, .int .i64 an][i]?) (by kernel_rfl) ?_
      have hS := Lib.hid HG.out.cell
      apply rp_take 0 rfl (by kernel_rfl) (fun _ _ _ h => h) (hS.out) rfl
      · (rintro W' hW; go_simp; try rfl)
      · (go_simp; try rfl)
      apply rp_pure 1 rfl (by kernel_rfl) (fun _ _ _ h => h) rfl
      · (intro W'; go_simp; try rfl)
      · (go_simp; try rfl)
      apply rp_take 2 rfl (by kernel_rfl) (fun _ _ _ h => h) (hS.out) rfl
      · (rintro W' hW; go_simp; try rfl)
      · (go_simp; try rfl)
      apply rp_pure 3 rfl (by kernel_rfl) (fun _ _ _ h => h) rfl
      · (intro W'; go_simp; try rfl)
      · (go_simp; try rfl)
      apply rp_pure 4 rfl (by kernel_rfl) (fun _ _ _ h => h) rfl
      · (intro W'; go_simp; try rfl)
      · (go_simp; try rfl)
      apply rp_take 5 rfl (by kernel_rfl) (fun _ _ _ h => h) (hS.out) rfl
      · (rintro W' hW; go_simp; try rfl)
      · (go_simp; try rfl)
      apply rp_pure 6 rfl (by kernel_rfl) (fun _ _ _ h => h) rfl
      · (intro W'; go_simp; try rfl)
      · (go_simp; try rfl)
      apply rp_pure 7 rfl (by kernel_rfl) (fun _ _ _ h => h) rfl
      · (intro W'; go_simp; try rfl)
      · (go_simp; try rfl)
      apply rp_pure 8 rfl (by kernel_rfl) (fun _ _ _ h => h) rfl
      · (intro W'; go_simp; try rfl)
      · (go_simp; try rfl)
      apply rp_pure 9 rfl (by kernel_rfl) (fun _ _ _ h => h) rfl
      · (intro W'; go_simp; try rfl)
      · (go_simp; try rfl)
      apply rp_pure 10 rfl (by kernel_rfl) (fun _ _ _ h => h) rfl
      · (intro W'; go_simp; try rfl)
      · (go_simp; try rfl)
      refine rp_only 11 (by kernel_rfl) rfl (fun K hK => ?_)
      go_simp
      ((with_reducible refine (hin1 _).mono ?_); rintro e w1 ⟨rfl, rfl⟩)
      refine hK _ _ ⟨fun _ h => h, ?_⟩; clear hK K
      apply rp_pure 12 rfl (by kernel_rfl) (fun _ _ _ h => h) rfl
      · (intro W'; go_simp; try rfl)
      · (go_simp; try rfl)
      apply rp_pure 13 rfl (by kernel_rfl) (fun _ _ _ h => h) rfl
      · (intro W'; go_simp; try rfl)
      · (go_simp; try rfl)
      apply rp_pure 14 rfl (by kernel_rfl) (fun _ _ _ h => h) rfl
      · (intro W'; go_simp; try rfl)
      · (go_simp; try rfl)
      apply rp_take 15 rfl (by kernel_rfl) (fun _ _ _ h => h) (hS.out) rfl
      · (rintro W' hW; go_simp; try rfl)
      · (go_simp; try rfl)
      apply rp_pure 16 rfl (by kernel_rfl) (fun _ _ _ h => h) rfl
      · (intro W'; go_simp; try rfl)
      · (go_simp; try rfl)
      refine rp_only 17 (by kernel_rfl) rfl (fun K hK => ?_)
      go_simp
      ((with_reducible refine (hin2 _).mono ?_); rintro e w1 ⟨rfl, rfl⟩)
      refine hK _ _ ⟨fun _ h => h, ?_⟩; clear hK K
      apply rp_pure 18 rfl (by kernel_rfl) (fun _ _ _ h => h) rfl
      · (intro W'; go_simp; try rfl)
      · (go_simp; try rfl)
      refine rp_only 19 (by kernel_rfl) rfl (fun K hK => ?_)
      go_simp
      ((with_reducible refine hto.out.mono ?_); rintro e w2 ⟨rfl, hB2⟩)
      have HB2 := Lib.hid (HB.out.trans (hB2.mono HB.out.size))
      refine hK _ _ ⟨fun _ _ => (HG.out.below hB2).cell, ?_⟩; clear hK K hB2
      apply rp_pure 20 rfl (by kernel_rfl) (fun _ _ _ h => h) rfl
      · (intro W'; go_simp; try rfl)
      · (go_simp; try rfl)
      apply rp_pure 21 rfl (by kernel_rfl) (fun _ _ _ h => h) rfl
      · (intro W'; go_simp; try rfl)
      · (go_simp; try rfl)
      apply rp_pure 22 rfl (by kernel_rfl) (fun _ _ _ h => h) rfl
      · (intro W'; go_simp; try rfl)
      · (go_simp; try rfl)
      apply rp_pure 23 rfl (by kernel_rfl) (fun _ _ _ h => h) rfl
      · (intro W'; go_simp; try rfl)
      · (go_simp; try rfl)
      refine rp_done (by kernel_rfl) ?_
      clear hS
      go_wp2
      go_ret2
      exact ⟨rfl, HB2.out⟩

theorem rlogAt_any (g : Geo) (copy slot : Int) (w : World) (hg : okG g = true) (hl : okL g copy slot = true) : Calls Try.prog 54 #[gv g, .int .i64 copy, .int .i64 slot] w fun e w' => e = .returned (.int .i64 (logAt g copy slot)) ∧ Below w.heap.size w w' := by
  obtain ⟨z, d, sp, sl, an⟩ := g
  obtain ⟨-, -, -, hs, ha⟩ := okG_iff.1 hg
  have hs1 : (14 : Int) ≤ sl := hs.1
  have hs2 : sl ≤ 30 := hs.2
  have ha1 : (1 : Int) ≤ an := ha.1
  have ha2 : an ≤ 3 := ha.2
  simp only [okL, Bool.and_eq_true, inB_iff] at hl
  have HB := Lib.hid ((Below.refl w.heap.size w).alloc (Nat.le_refl _) (.cells #[.int .i64 z, .int .i64 d, .int .i64 sp, .int .i64 sl, .int .i64 an] 23))
  have hcm : 0 ≤ copy * sl ∧ copy * sl ≤ 30 := by
    rcases (show copy = 0 ∨ copy = 1 by omega) with rfl | rfl
    · omega
    · omega
  have hE := Lib.hid (show logAt ⟨z, d, sp, sl, an⟩ copy slot = an + copy * sl + slot from rfl)
  rw [hE.out]
  obtain ⟨P, hP⟩ : ∃ P, copy * sl = P := ⟨_, rfl⟩
  rw [hP] at hcm ⊢
  have hw1 : IntKind.i64.wrap P = P := by rw [IntKind.wrap_i64]; omega
  have hw2 : IntKind.i64.wrap (an + P) = an + P := by rw [IntKind.wrap_i64]; omega
  have hw3 : IntKind.i64.wrap (an + P + slot) = an + P + slot := by rw [IntKind.wrap_i64]; omega
  unfold gv
  simp only
  obtain ⟨hl1, hl2, hl3⟩ := hl
  clear hg hs ha hcm hE hl1
  go_enter Try.func54, Try.ntmps54
  go_wp2
  go_ret
  exact ⟨rfl, HB.out⟩
end Go.Proofs.Ytpknhpfbinplgaa
