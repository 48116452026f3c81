/-
The law RecBack answers true: what is written is read, nothing else is.
-/
import Derived.Test.YtpknhpfbinplgaaRcDraw
import Derived.Deep.DeepCutAuto
namespace Go.Proofs.Ytpknhpfbinplgaa
open Go.RowKit
attribute [local go_sem ↓] Go.wp_at_zero Go.wp_at_succ

set_option maxRecDepth 100000 in
set_option maxHeartbeats 16000000 in
theorem back_any (g : Geo) (r q : Rc) (v1 v2 : Value) (cut : Int) (w : World) (M1 M2 : Ms) (h1 : SlR w M1 v1 r.img.bytes) (h2 : SlR w M2 v2 q.img.bytes) (hc0 : -9223372036854775808 ≤ cut) (hc1 : cut ≤ 9223372036854775807) :
    Calls Try.prog 3 #[gv g, rv r v1, rv q v2, .int .i64 cut] w fun e w' => e = .returned (.bool true) ∧ Below w.heap.size w w' := by
  obtain ⟨k1, s1, e1, a1, o1, ⟨z1, n1, l1⟩⟩ := r
  obtain ⟨k2, s2, e2, a2, o2, ⟨z2, n2, l2⟩⟩ := q
  obtain ⟨z, d, sp, sl, an⟩ := g
  simp only at h1 h2
  obtain ⟨p1, c1, rfl⟩ := h1.form
  obtain ⟨p2, c2, rfl⟩ := h2.form
  have hcp1 := h1.cap
  have hcp2 := h2.cap
  have H1 := Lib.hid h1.bare
  have H2 := Lib.hid h2.bare
  have hB1 := (Below.refl w.heap.size w).alloc (Nat.le_refl _) (.cells #[.int .i64 z, .int .i64 d, .int .i64 sp, .int .i64 sl, .int .i64 an] 23)
  have hB2 := hB1.alloc (by simp) (.cells #[.int .i64 k1, .int .i64 s1, .int .i64 e1, .int .i64 a1, .int .i64 o1, .int .i64 z1, .int .i64 n1, .slice p1 l1.length c1] 28)
  have hB3 := hB2.alloc (by simp; omega) (.cells #[.int .i64 k2, .int .i64 s2, .int .i64 e2, .int .i64 a2, .int .i64 o2, .int .i64 z2, .int .i64 n2, .slice p2 l2.length c2] 28)
  have HB := Lib.hid hB3
  have HG := Lib.hid (((Blk.new w 23 #[.int .i64 z, .int .i64 d, .int .i64 sp, .int .i64 sl, .int .i64 an]).alloc (.cells #[.int .i64 k1, .int .i64 s1, .int .i64 e1, .int .i64 a1, .int .i64 o1, .int .i64 z1, .int .i64 n1, .slice p1 l1.length c1] 28)).alloc (.cells #[.int .i64 k2, .int .i64 s2, .int .i64 e2, .int .i64 a2, .int .i64 o2, .int .i64 z2, .int .i64 n2, .slice p2 l2.length c2] 28))
  have hR := (Blk.new (w.alloc (.cells #[.int .i64 z, .int .i64 d, .int .i64 sp, .int .i64 sl, .int .i64 an] 23)) 28 #[.int .i64 k1, .int .i64 s1, .int .i64 e1, .int .i64 a1, .int .i64 o1, .int .i64 z1, .int .i64 n1, .slice p1 l1.length c1]).alloc (.cells #[.int .i64 k2, .int .i64 s2, .int .i64 e2, .int .i64 a2, .int .i64 o2, .int .i64 z2, .int .i64 n2, .slice p2 l2.length c2] 28)
  have hQ := Blk.new ((w.alloc (.cells #[.int .i64 z, .int .i64 d, .int .i64 sp, .int .i64 sl, .int .i64 an] 23)).alloc (.cells #[.int .i64 k1, .int .i64 s1, .int .i64 e1, .int .i64 a1, .int .i64 o1, .int .i64 z1, .int .i64 n1, .slice p1 l1.length c1] 28)) 28 #[.int .i64 k2, .int .i64 s2, .int .i64 e2, .int .i64 a2, .int .i64 o2, .int .i64 z2, .int .i64 n2, .slice p2 l2.length c2]
  simp only [World.size_alloc] at hR hQ
  have HR := Lib.hid hR
  have HQ := Lib.hid hQ
  unfold rv gv
  simp only
  clear hB1 hB2 hB3 hR hQ h1 h2
  by_cases hh1 : 200 < l1.length
  · have hh1' : (200 : Int) < l1.length := by omega
    go_enter Try.func3, Try.ntmps3
    go_wp2
    go_ret
    exact ⟨rfl, HB.out⟩
  have hh1' : ¬ (200 : Int) < l1.length := by omega
  by_cases hh2 : 200 < l2.length
  · have hh2' : (200 : Int) < l2.length := by omega
    go_enter Try.func3, Try.ntmps3
    go_wp2
    go_ret
    exact ⟨rfl, HB.out⟩
  have hh2' : ¬ (200 : Int) < l2.length := by omega
  have hb1 := Lib.hid (rbytes_any ⟨z, d, sp, sl, an⟩ ⟨k1, s1, e1, a1, o1, ⟨z1, n1, l1⟩⟩ (.slice p1 l1.length c1) _ noM (H1.out.mono (Keep.below HB.out)) (by simp only; omega))
  unfold gv rv at hb1
  simp only at hb1
  clear hh1 hh2 hcp1 hcp2
  go_enter Try.func3, Try.ntmps3
  go_wp2_with fail
  ((with_reducible refine hb1.out.mono ?_); rintro e w1 ⟨hU1, hB1⟩)
  have HB1 := Lib.hid (HB.out.trans (hB1.mono HB.out.size))
  have HB1s := Lib.hid HB1.out.size
  have HG1 := Lib.hid (HG.out.below hB1)
  have HR1 := Lib.hid (HR.out.below hB1)
  have HQ1 := Lib.hid (HQ.out.below hB1)
  have hb2 := Lib.hid (rbytes_any ⟨z, d, sp, sl, an⟩ ⟨k2, s2, e2, a2, o2, ⟨z2, n2, l2⟩⟩ (.slice p2 l2.length c2) w1 noM (H2.out.mono (Keep.below HB1.out)) (by simp only; omega))
  unfold gv rv at hb2
  simp only at hb2
  clear hB1 hb1 HB HG HR HQ
  obtain ⟨g1, g2, g3⟩ := HG1.out.all
  obtain ⟨q1, q2, q3⟩ := HQ1.out.all
  rcases hU1 with ⟨ok1, vx, rfl, hox⟩ | ⟨no1, rfl⟩
  · obtain ⟨px, cx, rfl⟩ := hox.form
    have OK1 := Lib.hid ok1
    have HX := Lib.hid hox
    clear ok1 hox
    go_wp2_with fail
    clear g1 g2 g3 q1 q2 q3
    ((with_reducible refine hb2.out.mono ?_); rintro e w2 ⟨hU2, hB2⟩)
    have HB2 := Lib.hid (HB1.out.trans (hB2.mono HB1.out.size))
    have HG2 := Lib.hid (HG1.out.below hB2)
    have HR2 := Lib.hid (HR1.out.below hB2)
    have HQ2 := Lib.hid (HQ1.out.below hB2)
    have HX2 := Lib.hid (HX.out.below hB2)
    clear hB2 hb2 HB1 HG1 HR1 HQ1 HX
    rcases hU2 with ⟨ok2, vy, rfl, hoy⟩ | ⟨no2, rfl⟩
    · obtain ⟨py, cy, rfl⟩ := hoy.form
      have OK2 := Lib.hid ok2
      have HY2 := Lib.hid (hoy.mono_base (base' := w.heap.size) HB1s.out)
      obtain ⟨X, hX⟩ : ∃ X, X = recB ⟨k1, s1, e1, a1, o1, ⟨z1, n1, l1⟩⟩ := ⟨_, rfl⟩
      obtain ⟨Y, hY⟩ : ∃ Y, Y = recB ⟨k2, s2, e2, a2, o2, ⟨z2, n2, l2⟩⟩ := ⟨_, rfl⟩
      rw [← hX] at HX2 ⊢
      rw [← hY] at HY2 ⊢
      have hXl := recB_short OK1.out
      rw [← hX] at hXl
      have hdec : decide (X = Y) = decide ((⟨k1, s1, e1, a1, o1, ⟨z1, n1, l1⟩⟩ : Rc) = ⟨k2, s2, e2, a2, o2, ⟨z2, n2, l2⟩⟩) := by rw [hX, hY]; exact decide_eq_decide.2 (recB_inj OK1.out OK2.out)
      have hYl := recB_short OK2.out
      rw [← hY] at hYl
      have HDE := Lib.hid hdec
      have hrx : readR ⟨z, d, sp, sl, an⟩ X = some ⟨k1, s1, e1, a1, o1, ⟨z1, n1, l1⟩⟩ := by rw [hX]; exact readR_recB OK1.out
      have HRX := Lib.hid hrx
      have HCUT := Lib.hid (fun n (h : n < X.length) => show readR ⟨z, d, sp, sl, an⟩ (X.take n) = none by rw [hX] at h ⊢; exact readR_cut OK1.out h)
      have HMORE := Lib.hid (show readR ⟨z, d, sp, sl, an⟩ (X ++ [0]) = none by rw [hX]; exact readR_more OK1.out 0)
      have hXo := HX2.out.mono_base (base' := w.heap.size) (by simp; omega)
      have HX2 := Lib.hid hXo
      have hokg := Lib.hid (okR_parts OK1.out).1
      clear hX hY hdec hrx hXo ok2 hoy
      obtain ⟨xl0, xl1⟩ := hXl
      obtain ⟨yl0, yl1⟩ := hYl
      have hrd := Lib.hid (rread_any ⟨z, d, sp, sl, an⟩ (.slice px X.length cx) X w2 noM (HX2.out.sl (fun _ _ h => h)) (by omega))
      unfold gv at hrd
      simp only at hrd
      obtain ⟨g1, g2, g3⟩ := HG2.out.all
      go_wp2_with fail
      clear g1 g2 g3
      ((with_reducible refine hrd.out.mono ?_); rintro e w3 ⟨hU3, hB3⟩)
      have HB3 := Lib.hid (HB2.out.trans (hB3.mono HB2.out.size))
      have HG3 := Lib.hid (HG2.out.below hB3)
      have HR3 := Lib.hid (HR2.out.below hB3)
      have HQ3 := Lib.hid (HQ2.out.below hB3)
      have HX3 := Lib.hid (HX2.out.below hB3)
      have HY3 := Lib.hid (HY2.out.below hB3)
      clear hB3 hrd HB2 HG2 HR2 HQ2 HX2 HY2
      rcases hU3 with ⟨hbad, -⟩ | ⟨-, hbad, -⟩ | ⟨-, v5, r5, hr5, rfl, ho5⟩
      · exact absurd hbad (by rw [hokg.out]; simp)
      · exact absurd hbad (by rw [HRX.out]; simp)
      rw [HRX.out] at hr5
      injection hr5 with hr5
      subst hr5
      obtain ⟨p5, c5, rfl⟩ := ho5.form
      unfold rv
      simp only
      have hb4 := (Below.refl w3.heap.size w3).alloc (Nat.le_refl _) (.cells #[.int .i64 k1, .int .i64 s1, .int .i64 e1, .int .i64 a1, .int .i64 o1, .int .i64 z1, .int .i64 n1, .slice p5 l1.length c5] 28)
      have HS5 := Lib.hid ((ho5.below hb4).sl (M := noM) (fun _ _ h => h))
      have HZ4 := Lib.hid (Blk.new w3 28 #[.int .i64 k1, .int .i64 s1, .int .i64 e1, .int .i64 a1, .int .i64 o1, .int .i64 z1, .int .i64 n1, .slice p5 l1.length c5])
      have HB4 := Lib.hid (HB3.out.trans (hb4.mono HB3.out.size))
      have HG4 := Lib.hid (HG3.out.below hb4)
      have HR4 := Lib.hid (HR3.out.below hb4)
      have HQ4 := Lib.hid (HQ3.out.below hb4)
      have HX4 := Lib.hid (HX3.out.below hb4)
      have HY4 := Lib.hid (HY3.out.below hb4)
      clear hb4 ho5 HB3 HG3 HR3 HQ3 HX3 HY3
      go_upto_region 8 with fail
      obtain ⟨q4, hq4⟩ : ∃ q4, q4 = w3.heap.size := ⟨_, rfl⟩
      obtain ⟨w4, hw4⟩ : ∃ w4, w4 = w3.alloc (.cells #[.int .i64 k1, .int .i64 s1, .int .i64 e1, .int .i64 a1, .int .i64 o1, .int .i64 z1, .int .i64 n1, .slice p5 l1.length c5] 28) := ⟨_, rfl⟩
      rw [← hw4] at HS5 HB4 HG4 HR4 HQ4 HX4 HY4 HZ4 ⊢
      rw [← hq4] at HZ4 ⊢
      clear hw4 hq4
      have hX0 : ((X.length : Int) == 0) = false := beq_eq_false_iff_ne.2 (by omega)
      have hX96 : ¬ (96 : Int) < X.length := by omega
      obtain ⟨bb, hbb⟩ : ∃ bb, bb = decide ((⟨k1, s1, e1, a1, o1, ⟨z1, n1, l1⟩⟩ : Rc) = ⟨k2, s2, e2, a2, o2, ⟨z2, n2, l2⟩⟩) := ⟨_, rfl⟩
      have HBB := Lib.hid hbb
      clear hbb
      refine rp_enter [3, 4, 22, 23] (fun V => (∀ i, V.cell? ⟨q4, i, none⟩ = #[.int .i64 k1, .int .i64 s1, .int .i64 e1, .int .i64 a1, .int .i64 o1, .int .i64 z1, .int .i64 n1, .slice p5 l1.length c5][i]?) ∧ (∀ i, V.cell? ⟨w.heap.size + 1, i, none⟩ = #[.int .i64 k1, .int .i64 s1, .int .i64 e1, .int .i64 a1, .int .i64 o1, .int .i64 z1, .int .i64 n1, .slice p1 l1.length c1][i]?) ∧ (∀ i, V.cell? ⟨w.heap.size + 1 + 1, i, none⟩ = #[.int .i64 k2, .int .i64 s2, .int .i64 e2, .int .i64 a2, .int .i64 o2, .int .i64 z2, .int .i64 n2, .slice p2 l2.length c2][i]?)) (by kernel_rfl) ?_
      replace HB4 := Lib.hid HB4.out.drew
      replace HG4 := Lib.hid HG4.out.drew
      replace HR4 := Lib.hid HR4.out.drew
      replace HQ4 := Lib.hid HQ4.out.drew
      replace HZ4 := Lib.hid HZ4.out.drew
      replace HX4 := Lib.hid HX4.out.drew
      replace HY4 := Lib.hid HY4.out.drew
      replace HS5 := Lib.hid (HS5.out.mono (Keep.below (below_drew w4)))
      obtain ⟨w4', hw4⟩ : ∃ w4', w4' = w4.drew := ⟨_, rfl⟩
      rw [← hw4] at HB4 HG4 HR4 HQ4 HZ4 HX4 HY4 HS5 ⊢
      clear hw4
      clear w4
      obtain ⟨w4, rfl⟩ : ∃ w4, w4 = w4' := ⟨_, rfl⟩
      have hS := Lib.hid (And.intro HZ4.out.cell (And.intro HR4.out.cell HQ4.out.cell))
      apply rp_pure 0 rfl (by kernel_rfl) (fun _ _ _ h => h) rfl
      · (intro W'; go_simp; try rfl)
      · (go_simp; try rfl)
      apply rp_pure 1 rfl (by kernel_rfl) (fun _ _ _ h => h) rfl
      · (intro W'; go_simp; try rfl)
      · (go_simp; try rfl)
      apply rp_pure 2 rfl (by kernel_rfl) (fun _ _ _ h => h) rfl
      · (intro W'; go_simp; try rfl)
      · (go_simp; try rfl)
      apply rp_take 3 rfl (by kernel_rfl) (fun _ _ _ h => h) (hS.out) rfl
      · (rintro W' ⟨sz, sr, sq⟩; go_simp; try rfl)
      · (go_simp; try rfl)
      apply rp_take 4 rfl (by kernel_rfl) (fun _ _ _ h => h) (hS.out) rfl
      · (rintro W' ⟨sz, sr, sq⟩; go_simp; try rfl)
      · (go_simp; try rfl)
      refine rp_only 5 (by kernel_rfl) rfl (fun K hK => ?_)
      have hk1 := Lib.hid (krec_any ⟨k1, s1, e1, a1, o1, ⟨z1, n1, l1⟩⟩ ⟨k1, s1, e1, a1, o1, ⟨z1, n1, l1⟩⟩ (.slice p5 l1.length c5) (.slice p1 l1.length c1) w4 noM noM HS5.out (H1.out.mono (Keep.below HB4.out)) (by simp only; omega))
      rw [show decide ((⟨k1, s1, e1, a1, o1, ⟨z1, n1, l1⟩⟩ : Rc) = ⟨k1, s1, e1, a1, o1, ⟨z1, n1, l1⟩⟩) = true by simp] at hk1
      unfold rv at hk1
      simp only at hk1
      go_simp
      ((with_reducible refine hk1.out.mono ?_); rintro e w5 ⟨rfl, hB5⟩)
      replace HB4 := Lib.hid (HB4.out.trans ((hB5).mono HB4.out.size))
      replace HG4 := Lib.hid (HG4.out.below (hB5))
      replace HR4 := Lib.hid (HR4.out.below (hB5))
      replace HQ4 := Lib.hid (HQ4.out.below (hB5))
      replace HZ4 := Lib.hid (HZ4.out.below (hB5))
      replace HX4 := Lib.hid (HX4.out.below (hB5))
      replace HY4 := Lib.hid (HY4.out.below (hB5))
      clear hB5 hk1 hS
      refine hK _ _ ⟨fun _ _ => ⟨HZ4.out.cell, HR4.out.cell, HQ4.out.cell⟩, ?_⟩; clear hK K
      have hS := Lib.hid (And.intro HZ4.out.cell (And.intro HR4.out.cell HQ4.out.cell))
      apply rp_pure 6 rfl (by kernel_rfl) (fun _ _ _ h => h) rfl
      · (intro W'; go_simp; try rfl)
      · (go_simp; try rfl)
      apply rp_pure 7 rfl (by kernel_rfl) (fun _ _ _ h => h) rfl
      · (intro W'; go_simp; try rfl)
      · (go_simp; try rfl)
      apply rp_pure 8 rfl (by kernel_rfl) (fun _ _ _ h => h) rfl
      · (intro W'; go_simp; try rfl)
      · (go_simp; try rfl)
      apply rp_pure 9 rfl (by kernel_rfl) (fun _ _ _ h => h) rfl
      · (intro W'; go_simp; try rfl)
      · (go_simp; try rfl)
      apply rp_pure 10 rfl (by kernel_rfl) (fun _ _ _ h => h) rfl
      · (intro W'; go_simp; try rfl)
      · (go_simp; try rfl)
      apply rp_pure 11 rfl (by kernel_rfl) (fun _ _ _ h => h) rfl
      · (intro W'; go_simp; try rfl)
      · (go_simp; try rfl)
      apply rp_pure 12 rfl (by kernel_rfl) (fun _ _ _ h => h) rfl
      · (intro W'; go_simp; try rfl)
      · (go_simp; try rfl)
      apply rp_pure 13 rfl (by kernel_rfl) (fun _ _ _ h => h) rfl
      · (intro W'; go_simp; try rfl)
      · (go_simp; try rfl)
      apply rp_pure 14 rfl (by kernel_rfl) (fun _ _ _ h => h) rfl
      · (intro W'; go_simp; try rfl)
      · (go_simp; try rfl)
      apply rp_pure 15 rfl (by kernel_rfl) (fun _ _ _ h => h) rfl
      · (intro W'; go_simp; try rfl)
      · (go_simp; try rfl)
      apply rp_pure 16 rfl (by kernel_rfl) (fun _ _ _ h => h) rfl
      · (intro W'; go_simp; try rfl)
      · (go_simp; try rfl)
      apply rp_pure 17 rfl (by kernel_rfl) (fun _ _ _ h => h) rfl
      · (intro W'; go_simp; try rfl)
      · (go_simp; try rfl)
      apply rp_pure 18 rfl (by kernel_rfl) (fun _ _ _ h => h) rfl
      · (intro W'; go_simp; try rfl)
      · (go_simp; try rfl)
      apply rp_pure 19 rfl (by kernel_rfl) (fun _ _ _ h => h) rfl
      · (intro W'; go_simp; try rfl)
      · (go_simp; try rfl)
      apply rp_pure 20 rfl (by kernel_rfl) (fun _ _ _ h => h) rfl
      · (intro W'; go_simp; try rfl)
      · (go_simp; try rfl)
      apply rp_take 22 rfl (by kernel_rfl) (fun _ _ _ h => h) (hS.out) rfl
      · (rintro W' ⟨sz, sr, sq⟩; go_simp; try rfl)
      · (go_simp; try rfl)
      apply rp_take 23 rfl (by kernel_rfl) (fun _ _ _ h => h) (hS.out) rfl
      · (rintro W' ⟨sz, sr, sq⟩; go_simp; try rfl)
      · (go_simp; try rfl)
      refine rp_only 21 (by kernel_rfl) rfl (fun K hK => ?_)
      have hk1 := Lib.hid (bytes_any (.slice px X.length cx) (.slice py Y.length cy) X Y w5 noM noM (HX4.out.sl (fun _ _ h => h)) (HY4.out.sl (fun _ _ h => h)) (by omega))
      rw [HDE.out, ← HBB.out] at hk1
      go_simp
      ((with_reducible refine hk1.out.mono ?_); rintro e w6 ⟨rfl, hB6⟩)
      replace HB4 := Lib.hid (HB4.out.trans ((hB6).mono HB4.out.size))
      replace HG4 := Lib.hid (HG4.out.below (hB6))
      replace HR4 := Lib.hid (HR4.out.below (hB6))
      replace HQ4 := Lib.hid (HQ4.out.below (hB6))
      replace HZ4 := Lib.hid (HZ4.out.below (hB6))
      replace HX4 := Lib.hid (HX4.out.below (hB6))
      replace HY4 := Lib.hid (HY4.out.below (hB6))
      clear hB6 hk1 hS
      refine hK _ _ ⟨fun _ _ => ⟨HZ4.out.cell, HR4.out.cell, HQ4.out.cell⟩, ?_⟩; clear hK K
      have hS := Lib.hid (And.intro HZ4.out.cell (And.intro HR4.out.cell HQ4.out.cell))
      refine rp_only 24 (by kernel_rfl) rfl (fun K hK => ?_)
      have hk1 := Lib.hid (krec_any ⟨k1, s1, e1, a1, o1, ⟨z1, n1, l1⟩⟩ ⟨k2, s2, e2, a2, o2, ⟨z2, n2, l2⟩⟩ (.slice p1 l1.length c1) (.slice p2 l2.length c2) w6 noM noM (H1.out.mono (Keep.below HB4.out)) (H2.out.mono (Keep.below HB4.out)) (by simp only; omega))
      rw [← HBB.out] at hk1
      unfold rv at hk1
      simp only at hk1
      go_simp
      ((with_reducible refine hk1.out.mono ?_); rintro e w7 ⟨rfl, hB7⟩)
      replace HB4 := Lib.hid (HB4.out.trans ((hB7).mono HB4.out.size))
      replace HG4 := Lib.hid (HG4.out.below (hB7))
      replace HR4 := Lib.hid (HR4.out.below (hB7))
      replace HQ4 := Lib.hid (HQ4.out.below (hB7))
      replace HZ4 := Lib.hid (HZ4.out.below (hB7))
      replace HX4 := Lib.hid (HX4.out.below (hB7))
      replace HY4 := Lib.hid (HY4.out.below (hB7))
      clear hB7 hk1 hS
      refine hK _ _ ⟨fun _ _ => ⟨HZ4.out.cell, HR4.out.cell, HQ4.out.cell⟩, ?_⟩; clear hK K
      have hS := Lib.hid (And.intro HZ4.out.cell (And.intro HR4.out.cell HQ4.out.cell))
      apply rp_pure 25 rfl (by kernel_rfl) (fun _ _ _ h => h) rfl
      · (intro W'; go_simp; try rfl)
      · (go_simp; try rfl)
      apply rp_pure 26 rfl (by kernel_rfl) (fun _ _ _ h => h) rfl
      · (intro W'; go_simp; try rfl)
      · (go_simp; try rfl)
      refine rp_done (by kernel_rfl) ?_
      clear hS
      go_upto_region 10 with fail
      clear HZ4 HR4 HQ4 HY4
      go_cut [16] (fun s16 wx => s16 = .int .i64 4 ∧ Hid (Below w.heap.size w wx ∧ Blk wx w.heap.size 23 #[.int .i64 z, .int .i64 d, .int .i64 sp, .int .i64 sl, .int .i64 an] ∧ OwR wx noM w.heap.size 5 (.slice px X.length cx) X))
      case first =>
        have hwX : IntKind.u64.wrap (X.length : Int) = X.length := by rw [IntKind.wrap_u64]; omega
        have hXn : ¬ (X.length : Int) = 0 := by omega
        have hXe : ¬ X = [] := fun e => by rw [e] at xl0; simp at xl0
        have hc0' : 0 ≤ IntKind.u64.wrap cut := by rw [IntKind.wrap_u64]; omega
        obtain ⟨m, hm⟩ : ∃ m : Nat, (IntKind.u64.wrap cut).tmod (X.length : Int) = (m : Int) := ⟨((IntKind.u64.wrap cut).tmod (X.length : Int)).toNat, (Int.toNat_of_nonneg (Int.tmod_nonneg _ hc0')).symm⟩
        have hml : (m : Int) < X.length := by rw [← hm]; exact Int.tmod_lt_of_pos _ (by omega)
        have hwm : IntKind.i64.wrap (m : Int) = m := by rw [IntKind.wrap_i64]; omega
        obtain ⟨-, hcx, hcx2⟩ := (HX4.out.sl (M := noM) (fun _ _ h => h)).cap
        have hmcx : (m : Int) ≤ cx := by omega
        have hm0 : (0 : Int) ≤ m := by omega
        clear hc0'
        refine rp_enter [0] (fun V => ∀ i, V.cell? ⟨w.heap.size, i, none⟩ = #[.int .i64 z, .int .i64 d, .int .i64 sp, .int .i64 sl, .int .i64 an][i]?) (by kernel_rfl) ?_
        replace HB4 := Lib.hid HB4.out.drew
        replace HG4 := Lib.hid HG4.out.drew
        replace HX4 := Lib.hid HX4.out.drew
        obtain ⟨V0, hV0⟩ : ∃ V0, V0 = w7.drew := ⟨_, rfl⟩
        rw [← hV0] at HB4 HG4 HX4 ⊢
        clear hV0
        have hS := Lib.hid HG4.out.cell
        apply rp_take 0 rfl (by kernel_rfl) (fun _ _ _ h => h) (hS.out) rfl
        · (rintro W' hW; go_simp; try rfl)
        · (go_simp; try rfl)
        apply rp_pure 1 rfl (by kernel_rfl) (fun _ _ _ h => h) rfl
        · (intro W'; go_simp; try rfl)
        · (go_simp; try rfl)
        apply rp_pure 2 rfl (by kernel_rfl) (fun _ _ _ h => h) rfl
        · (intro W'; go_simp; try rfl)
        · (go_simp; try rfl)
        apply rp_pure 3 rfl (by kernel_rfl) (fun _ _ _ h => h) rfl
        · (intro W'; go_simp; try rfl)
        · (go_simp; try rfl)
        apply rp_pure 4 rfl (by kernel_rfl) (fun _ _ _ h => h) rfl
        · (intro W'; go_simp; try rfl)
        · (go_simp; try rfl)
        apply rp_pure 5 rfl (by kernel_rfl) (fun _ _ _ h => h) rfl
        · (intro W'; go_simp; try rfl)
        · (go_simp; try rfl)
        apply rp_pure 6 rfl (by kernel_rfl) (fun _ _ _ h => h) rfl
        · (intro W'; go_simp; try rfl)
        · (go_simp; try rfl)
        apply rp_pure 7 rfl (by kernel_rfl) (fun _ _ _ h => h) rfl
        · (intro W'; go_simp; try rfl)
        · (go_simp; try rfl)
        apply rp_pure 8 rfl (by kernel_rfl) (fun _ _ _ h => h) rfl
        · (intro W'; go_simp; try rfl)
        · (go_simp; try rfl)
        apply rp_pure 9 rfl (by kernel_rfl) (fun _ _ _ h => h) rfl
        · (intro W'; go_simp; try rfl)
        · (go_simp; try rfl)
        refine rp_two 10 14 (by kernel_rfl) rfl rfl (fun K hK => ?_) (fun K hK => ?_)
        · skip
          have hrd := rread_any ⟨z, d, sp, sl, an⟩ (.slice px m cx) (X.take m) _ noM ((HX4.out.sl (fun _ _ h => h)).take_ (by omega)) (by rw [List.length_take]; omega)
          unfold gv at hrd
          simp only at hrd
          go_simp
          ((with_reducible refine hrd.mono ?_); rintro e wv ⟨hU, hBv⟩)
          rcases hU with ⟨hbad, -⟩ | ⟨-, -, rfl⟩ | ⟨-, v9, r9, hr9, -, -⟩
          case inl => exact absurd hbad (by rw [hokg.out]; simp)
          case inr.inr => exact absurd hr9 (by rw [HCUT.out m (by omega)]; simp)
          clear hrd
          replace HB4 := Lib.hid (HB4.out.trans ((hBv).mono HB4.out.size))
          replace HG4 := Lib.hid (HG4.out.below (hBv))
          replace HX4 := Lib.hid (HX4.out.below (hBv))
          clear hBv
          obtain ⟨V1, hV⟩ : ∃ x, x = wv := ⟨_, rfl⟩
          rw [← hV] at HB4 HG4 HX4 ⊢
          clear hV
          unfold zeroR
          refine hK _ _ ⟨fun _ _ => HG4.out.cell, ?_⟩; clear hK K
          clear hS
          have hS := Lib.hid HG4.out.cell
          apply rp_pure 11 rfl (by kernel_rfl) (fun _ _ _ h => h) rfl
          · (intro W'; go_simp; try rfl)
          · (go_simp; try rfl)
          apply rp_pure 12 rfl (by kernel_rfl) (fun _ _ _ h => h) rfl
          · (intro W'; go_simp; try rfl)
          · (go_simp; try rfl)
          apply rp_pure 13 rfl (by kernel_rfl) (fun _ _ _ h => h) rfl
          · (intro W'; go_simp; try rfl)
          · (go_simp; try rfl)
          refine rp_only 14 (by kernel_rfl) rfl (fun K hK => ?_)
          go_simp
          have hal := (Below.refl V1.heap.size V1).alloc (Nat.le_refl _) (.cells #[.int .i64 0, .int .i64 0, .int .i64 0, .int .i64 0, .int .i64 0, .int .i64 0, .int .i64 0, .slice none 0 0] 28)
          have HT := Lib.hid (Blk.new V1 28 #[.int .i64 0, .int .i64 0, .int .i64 0, .int .i64 0, .int .i64 0, .int .i64 0, .int .i64 0, .slice none 0 0])
          have HTl := Lib.hid (show w.heap.size < V1.heap.size from HG4.out.lt)
          replace HB4 := Lib.hid (HB4.out.trans ((hal).mono HB4.out.size))
          replace HG4 := Lib.hid (HG4.out.below (hal))
          replace HX4 := Lib.hid (HX4.out.below (hal))
          obtain ⟨V2, hV2⟩ : ∃ x, x = V1.alloc (.cells #[.int .i64 0, .int .i64 0, .int .i64 0, .int .i64 0, .int .i64 0, .int .i64 0, .int .i64 0, .slice none 0 0] 28) := ⟨_, rfl⟩
          have hqt : V1.heap.size = V1.heap.size := rfl
          rw [← hV2] at HB4 HG4 HX4 HT ⊢
          clear hV2 hal hqt
          refine hK _ _ ⟨fun _ _ => HG4.out.cell, ?_⟩; clear hK K
          clear hS
          have hS := Lib.hid HG4.out.cell
          refine rp_only 15 (by kernel_rfl) rfl (fun K hK => ?_)
          obtain ⟨t1, t2, t3⟩ := HT.out.all
          go_simp
          have HX5 := Lib.hid (And.intro (below_st8 HB4.out (Nat.le_of_lt HTl.out) (.int .i64 0) (.int .i64 0) (.int .i64 0) (.int .i64 0) (.int .i64 0) (.int .i64 0) (.int .i64 0) (.slice none 0 0)) (And.intro (far_st8 HG4.out (Nat.ne_of_lt HTl.out) (.int .i64 0) (.int .i64 0) (.int .i64 0) (.int .i64 0) (.int .i64 0) (.int .i64 0) (.int .i64 0) (.slice none 0 0)) (ow_st8 HX4.out (HX4.out.ne_ HT.out (by decide)) (.int .i64 0) (.int .i64 0) (.int .i64 0) (.int .i64 0) (.int .i64 0) (.int .i64 0) (.int .i64 0) (.slice none 0 0))))
          refine hK _ _ ⟨fun _ _ => HX5.out.2.1.cell, ?_⟩; clear hK K t1 t2 t3
          apply rp_pure 16 rfl (by kernel_rfl) (fun _ _ _ h => h) rfl
          · (intro W'; go_simp; try rfl)
          · (go_simp; try rfl)
          refine rp_done (by kernel_rfl) ?_
          go_wp2_with fail
          go_meet
          exact ⟨rfl, HX5⟩
        · skip
          go_simp
          have hal := (Below.refl V0.heap.size V0).alloc (Nat.le_refl _) (.cells #[.int .i64 0, .int .i64 0, .int .i64 0, .int .i64 0, .int .i64 0, .int .i64 0, .int .i64 0, .slice none 0 0] 28)
          have HT := Lib.hid (Blk.new V0 28 #[.int .i64 0, .int .i64 0, .int .i64 0, .int .i64 0, .int .i64 0, .int .i64 0, .int .i64 0, .slice none 0 0])
          have HTl := Lib.hid (show w.heap.size < V0.heap.size from HG4.out.lt)
          replace HB4 := Lib.hid (HB4.out.trans ((hal).mono HB4.out.size))
          replace HG4 := Lib.hid (HG4.out.below (hal))
          replace HX4 := Lib.hid (HX4.out.below (hal))
          obtain ⟨V1, hV1⟩ : ∃ x, x = V0.alloc (.cells #[.int .i64 0, .int .i64 0, .int .i64 0, .int .i64 0, .int .i64 0, .int .i64 0, .int .i64 0, .slice none 0 0] 28) := ⟨_, rfl⟩
          have hqt : V0.heap.size = V0.heap.size := rfl
          rw [← hV1] at HB4 HG4 HX4 HT ⊢
          clear hV1 hal hqt
          refine hK _ _ ⟨fun _ _ => HG4.out.cell, ?_⟩; clear hK K
          clear hS
          have hS := Lib.hid HG4.out.cell
          refine rp_only 10 (by kernel_rfl) rfl (fun K hK => ?_)
          have hrd := rread_any ⟨z, d, sp, sl, an⟩ (.slice px m cx) (X.take m) _ noM ((HX4.out.sl (fun _ _ h => h)).take_ (by omega)) (by rw [List.length_take]; omega)
          unfold gv at hrd
          simp only at hrd
          go_simp
          ((with_reducible refine hrd.mono ?_); rintro e wv ⟨hU, hBv⟩)
          rcases hU with ⟨hbad, -⟩ | ⟨-, -, rfl⟩ | ⟨-, v9, r9, hr9, -, -⟩
          case inl => exact absurd hbad (by rw [hokg.out]; simp)
          case inr.inr => exact absurd hr9 (by rw [HCUT.out m (by omega)]; simp)
          clear hrd
          replace HB4 := Lib.hid (HB4.out.trans ((hBv).mono HB4.out.size))
          replace HG4 := Lib.hid (HG4.out.below (hBv))
          replace HX4 := Lib.hid (HX4.out.below (hBv))
          replace HT := Lib.hid (HT.out.below hBv)
          clear hBv
          obtain ⟨V2, hV⟩ : ∃ x, x = wv := ⟨_, rfl⟩
          rw [← hV] at HB4 HG4 HX4 HT ⊢
          clear hV
          unfold zeroR
          refine hK _ _ ⟨fun _ _ => HG4.out.cell, ?_⟩; clear hK K
          clear hS
          have hS := Lib.hid HG4.out.cell
          apply rp_pure 11 rfl (by kernel_rfl) (fun _ _ _ h => h) rfl
          · (intro W'; go_simp; try rfl)
          · (go_simp; try rfl)
          apply rp_pure 12 rfl (by kernel_rfl) (fun _ _ _ h => h) rfl
          · (intro W'; go_simp; try rfl)
          · (go_simp; try rfl)
          apply rp_pure 13 rfl (by kernel_rfl) (fun _ _ _ h => h) rfl
          · (intro W'; go_simp; try rfl)
          · (go_simp; try rfl)
          refine rp_only 15 (by kernel_rfl) rfl (fun K hK => ?_)
          obtain ⟨t1, t2, t3⟩ := HT.out.all
          go_simp
          have HX5 := Lib.hid (And.intro (below_st8 HB4.out (Nat.le_of_lt HTl.out) (.int .i64 0) (.int .i64 0) (.int .i64 0) (.int .i64 0) (.int .i64 0) (.int .i64 0) (.int .i64 0) (.slice none 0 0)) (And.intro (far_st8 HG4.out (Nat.ne_of_lt HTl.out) (.int .i64 0) (.int .i64 0) (.int .i64 0) (.int .i64 0) (.int .i64 0) (.int .i64 0) (.int .i64 0) (.slice none 0 0)) (ow_st8 HX4.out (HX4.out.ne_ HT.out (by decide)) (.int .i64 0) (.int .i64 0) (.int .i64 0) (.int .i64 0) (.int .i64 0) (.int .i64 0) (.int .i64 0) (.slice none 0 0))))
          refine hK _ _ ⟨fun _ _ => HX5.out.2.1.cell, ?_⟩; clear hK K t1 t2 t3
          apply rp_pure 16 rfl (by kernel_rfl) (fun _ _ _ h => h) rfl
          · (intro W'; go_simp; try rfl)
          · (go_simp; try rfl)
          refine rp_done (by kernel_rfl) ?_
          go_wp2_with fail
          go_meet
          exact ⟨rfl, HX5⟩
      case rest =>
        obtain ⟨rfl, HC⟩ := hcut
        replace HB4 := Lib.hid HC.out.1
        replace HG4 := Lib.hid HC.out.2.1
        replace HX4 := Lib.hid HC.out.2.2
        clear HC
        go_upto_region 11 with fail
        go_cut [18] (fun s18 wx => s18 = .int .i64 4 ∧ Hid (Below w.heap.size w wx))
        case first =>
          refine rp_enter [0] (fun V => ∀ i, V.cell? ⟨w.heap.size, i, none⟩ = #[.int .i64 z, .int .i64 d, .int .i64 sp, .int .i64 sl, .int .i64 an][i]?) (by kernel_rfl) ?_
          replace HB4 := Lib.hid HB4.out.drew
          replace HG4 := Lib.hid HG4.out.drew
          replace HX4 := Lib.hid HX4.out.drew
          obtain ⟨V0, hV0⟩ : ∃ V0, V0 = wc.drew := ⟨_, rfl⟩
          rw [← hV0] at HB4 HG4 HX4 ⊢
          clear hV0
          have hS := Lib.hid HG4.out.cell
          apply rp_take 0 rfl (by kernel_rfl) (fun _ _ _ h => h) (hS.out) rfl
          · (rintro W' hW; go_simp; try rfl)
          · (go_simp; try rfl)
          apply rp_pure 1 rfl (by kernel_rfl) (fun _ _ _ h => h) rfl
          · (intro W'; go_simp; try rfl)
          · (go_simp; try rfl)
          refine rp_three 2 3 9 (by kernel_rfl) rfl rfl rfl (fun K hK => ?_) (fun K hK => ?_) (fun K hK => ?_)
          · skip
            go_simp
            refine (twinO_any (.slice px X.length cx) X V0 noM (HX4.out.sl (fun _ _ h => h)) (by omega)).mono ?_
            rintro e wv ⟨rt, rfl, htw, hBv⟩
            obtain ⟨pt, ct, rfl⟩ := htw.form
            have HTW := Lib.hid (htw.mono_base (base' := w.heap.size) HB4.out.size)
            replace HB4 := Lib.hid (HB4.out.trans ((hBv).mono HB4.out.size))
            replace HG4 := Lib.hid (HG4.out.below (hBv))
            replace HX4 := Lib.hid (HX4.out.below (hBv))
            clear hBv htw HX4
            obtain ⟨V1, hV⟩ : ∃ x, x = wv := ⟨_, rfl⟩
            rw [← hV] at HB4 HG4 HTW ⊢
            clear hV
            refine hK _ _ ⟨fun _ _ => HG4.out.cell, ?_⟩; clear hK K
            clear hS
            have hS := Lib.hid HG4.out.cell
            refine rp_two 3 9 (by kernel_rfl) rfl rfl (fun K hK => ?_) (fun K hK => ?_)
            · skip
              go_simp
              have hal := (Below.refl V1.heap.size V1).alloc (Nat.le_refl _) (.cells #[.int .u8 0] 5)
              have hzb := Blk.new V1 5 #[.int .u8 0]
              have hne0 : (Value.slice pt X.length ct).ownBlock ≠ some V1.heap.size := fun e => by have := HTW.out.own_lt e; omega
              replace HB4 := Lib.hid (HB4.out.trans ((hal).mono HB4.out.size))
              replace HG4 := Lib.hid (HG4.out.below (hal))
              replace HTW := Lib.hid (HTW.out.below (hal))
              obtain ⟨q3, hq3⟩ : ∃ q3, q3 = V1.heap.size := ⟨_, rfl⟩
              rw [← hq3] at hzb hne0 ⊢
              have HZB := Lib.hid hzb
              have HNE := Lib.hid hne0
              clear hne0
              clear hzb hal hq3
              obtain ⟨V2, hV⟩ : ∃ x, x = V1.alloc (.cells #[.int .u8 0] 5) := ⟨_, rfl⟩
              rw [← hV] at HB4 HG4 HTW HZB ⊢
              clear hV
              refine hK _ _ ⟨fun _ _ => HG4.out.cell, ?_⟩; clear hK K
              clear hS
              have hS := Lib.hid HG4.out.cell
              refine rp_two 4 9 (by kernel_rfl) rfl rfl (fun K hK => ?_) (fun K hK => ?_)
              · skip
                have hS3 : SlR V2 (fun b => noM b ∨ (Value.slice pt X.length ct).ownBlock = some b) (.slice (some ⟨q3, 0, none⟩) 1 1) [(0 : UInt8)] := SlR.one (α := UInt8) (x := (0 : UInt8)) (cs := [.int .u8 0]) HZB.out rfl (fun h => h.elim (fun h => h) HNE.out)
                refine step_append_R (α := UInt8) (M := noM) (base := w.heap.size) (l := X) (m := [(0 : UInt8)]) rfl (by rfl) tyB (by rfl) HTW.out (by rfl) hS3 (by simp; omega) HB4.out.size ?_
                intro v6 wv ho6 hg6 hat6
                obtain ⟨XX, hXX⟩ : ∃ x, x = X ++ [(0 : UInt8)] := ⟨_, rfl⟩
                have hXXl : XX.length ≤ 60 := by rw [hXX]; simp; omega
                rw [← hXX] at ho6
                have HXX := Lib.hid hXX
                clear hXX
                obtain ⟨p6, c6, rfl⟩ := ho6.form
                have HAP := Lib.hid ho6
                replace HB4 := Lib.hid (HB4.out.grown hg6 HB4.out.size (fun b e => HTW.out.own_ge e))
                replace HG4 := Lib.hid (HG4.out.grown hg6 (fun e => HTW.out.ne_ HG4.out (by decide) e.symm))
                clear hS3 ho6 hg6 hat6 HTW HZB
                obtain ⟨V3, hV⟩ : ∃ x, x = wv := ⟨_, rfl⟩
                rw [← hV] at HB4 HG4 HAP ⊢
                clear hV
                refine hK _ _ ⟨fun _ _ => HG4.out.cell, ?_⟩; clear hK K
                clear hS
                have hS := Lib.hid HG4.out.cell
                refine rp_two 5 9 (by kernel_rfl) rfl rfl (fun K hK => ?_) (fun K hK => ?_)
                · skip
                  have hrd := rread_any ⟨z, d, sp, sl, an⟩ (.slice p6 XX.length c6) XX _ noM (HAP.out.sl (fun _ _ h => h)) (by omega)
                  unfold gv at hrd
                  simp only at hrd
                  go_simp
                  ((with_reducible refine hrd.mono ?_); rintro e wv ⟨hU, hBv⟩)
                  rcases hU with ⟨hbad, -⟩ | ⟨-, -, rfl⟩ | ⟨-, v9, r9, hr9, -, -⟩
                  case inl => exact absurd hbad (by rw [hokg.out]; simp)
                  case inr.inr => exact absurd hr9 (by rw [HXX.out, HMORE.out]; simp)
                  clear hrd
                  replace HB4 := Lib.hid (HB4.out.trans ((hBv).mono HB4.out.size))
                  replace HG4 := Lib.hid (HG4.out.below (hBv))
                  clear hBv HAP
                  obtain ⟨V4, hV⟩ : ∃ x, x = wv := ⟨_, rfl⟩
                  rw [← hV] at HB4 HG4 ⊢
                  clear hV
                  unfold zeroR
                  refine hK _ _ ⟨fun _ _ => HG4.out.cell, ?_⟩; clear hK K
                  clear hS
                  have hS := Lib.hid HG4.out.cell
                  apply rp_pure 6 rfl (by kernel_rfl) (fun _ _ _ h => h) rfl
                  · (intro W'; go_simp; try rfl)
                  · (go_simp; try rfl)
                  apply rp_pure 7 rfl (by kernel_rfl) (fun _ _ _ h => h) rfl
                  · (intro W'; go_simp; try rfl)
                  · (go_simp; try rfl)
                  apply rp_pure 8 rfl (by kernel_rfl) (fun _ _ _ h => h) rfl
                  · (intro W'; go_simp; try rfl)
                  · (go_simp; try rfl)
                  refine rp_only 9 (by kernel_rfl) rfl (fun K hK => ?_)
                  go_simp
                  have hal := (Below.refl V4.heap.size V4).alloc (Nat.le_refl _) (.cells #[.int .i64 0, .int .i64 0, .int .i64 0, .int .i64 0, .int .i64 0, .int .i64 0, .int .i64 0, .slice none 0 0] 28)
                  have HT := Lib.hid (Blk.new V4 28 #[.int .i64 0, .int .i64 0, .int .i64 0, .int .i64 0, .int .i64 0, .int .i64 0, .int .i64 0, .slice none 0 0])
                  have HTl := Lib.hid (show w.heap.size < V4.heap.size from HG4.out.lt)
                  replace HB4 := Lib.hid (HB4.out.trans ((hal).mono HB4.out.size))
                  replace HG4 := Lib.hid (HG4.out.below (hal))
                  obtain ⟨V5, hV5⟩ : ∃ x, x = V4.alloc (.cells #[.int .i64 0, .int .i64 0, .int .i64 0, .int .i64 0, .int .i64 0, .int .i64 0, .int .i64 0, .slice none 0 0] 28) := ⟨_, rfl⟩
                  have hqt : V4.heap.size = V4.heap.size := rfl
                  rw [← hV5] at HB4 HG4 HT ⊢
                  clear hV5 hal hqt
                  refine hK _ _ ⟨fun _ _ => HG4.out.cell, ?_⟩; clear hK K
                  clear hS
                  have hS := Lib.hid HG4.out.cell
                  refine rp_only 10 (by kernel_rfl) rfl (fun K hK => ?_)
                  obtain ⟨t1, t2, t3⟩ := HT.out.all
                  go_simp
                  have HX5 := Lib.hid (And.intro (below_st8 HB4.out (Nat.le_of_lt HTl.out) (.int .i64 0) (.int .i64 0) (.int .i64 0) (.int .i64 0) (.int .i64 0) (.int .i64 0) (.int .i64 0) (.slice none 0 0)) (far_st8 HG4.out (Nat.ne_of_lt HTl.out) (.int .i64 0) (.int .i64 0) (.int .i64 0) (.int .i64 0) (.int .i64 0) (.int .i64 0) (.int .i64 0) (.slice none 0 0)))
                  refine hK _ _ ⟨fun _ _ => HX5.out.2.cell, ?_⟩; clear hK K t1 t2 t3
                  apply rp_pure 11 rfl (by kernel_rfl) (fun _ _ _ h => h) rfl
                  · (intro W'; go_simp; try rfl)
                  · (go_simp; try rfl)
                  refine rp_done (by kernel_rfl) ?_
                  go_wp2_with fail
                  go_meet
                  exact ⟨rfl, Lib.hid HX5.out.1⟩
                · skip
                  go_simp
                  have hal := (Below.refl V3.heap.size V3).alloc (Nat.le_refl _) (.cells #[.int .i64 0, .int .i64 0, .int .i64 0, .int .i64 0, .int .i64 0, .int .i64 0, .int .i64 0, .slice none 0 0] 28)
                  have HT := Lib.hid (Blk.new V3 28 #[.int .i64 0, .int .i64 0, .int .i64 0, .int .i64 0, .int .i64 0, .int .i64 0, .int .i64 0, .slice none 0 0])
                  have HTl := Lib.hid (show w.heap.size < V3.heap.size from HG4.out.lt)
                  replace HB4 := Lib.hid (HB4.out.trans ((hal).mono HB4.out.size))
                  replace HG4 := Lib.hid (HG4.out.below (hal))
                  replace HAP := Lib.hid (HAP.out.below (hal))
                  obtain ⟨V4, hV4⟩ : ∃ x, x = V3.alloc (.cells #[.int .i64 0, .int .i64 0, .int .i64 0, .int .i64 0, .int .i64 0, .int .i64 0, .int .i64 0, .slice none 0 0] 28) := ⟨_, rfl⟩
                  have hqt : V3.heap.size = V3.heap.size := rfl
                  rw [← hV4] at HB4 HG4 HAP HT ⊢
                  clear hV4 hal hqt
                  refine hK _ _ ⟨fun _ _ => HG4.out.cell, ?_⟩; clear hK K
                  clear hS
                  have hS := Lib.hid HG4.out.cell
                  refine rp_only 5 (by kernel_rfl) rfl (fun K hK => ?_)
                  have hrd := rread_any ⟨z, d, sp, sl, an⟩ (.slice p6 XX.length c6) XX _ noM (HAP.out.sl (fun _ _ h => h)) (by omega)
                  unfold gv at hrd
                  simp only at hrd
                  go_simp
                  ((with_reducible refine hrd.mono ?_); rintro e wv ⟨hU, hBv⟩)
                  rcases hU with ⟨hbad, -⟩ | ⟨-, -, rfl⟩ | ⟨-, v9, r9, hr9, -, -⟩
                  case inl => exact absurd hbad (by rw [hokg.out]; simp)
                  case inr.inr => exact absurd hr9 (by rw [HXX.out, HMORE.out]; simp)
                  clear hrd
                  replace HB4 := Lib.hid (HB4.out.trans ((hBv).mono HB4.out.size))
                  replace HG4 := Lib.hid (HG4.out.below (hBv))
                  replace HT := Lib.hid (HT.out.below hBv)
                  clear hBv HAP
                  obtain ⟨V5, hV⟩ : ∃ x, x = wv := ⟨_, rfl⟩
                  rw [← hV] at HB4 HG4 HT ⊢
                  clear hV
                  unfold zeroR
                  refine hK _ _ ⟨fun _ _ => HG4.out.cell, ?_⟩; clear hK K
                  clear hS
                  have hS := Lib.hid HG4.out.cell
                  apply rp_pure 6 rfl (by kernel_rfl) (fun _ _ _ h => h) rfl
                  · (intro W'; go_simp; try rfl)
                  · (go_simp; try rfl)
                  apply rp_pure 7 rfl (by kernel_rfl) (fun _ _ _ h => h) rfl
                  · (intro W'; go_simp; try rfl)
                  · (go_simp; try rfl)
                  apply rp_pure 8 rfl (by kernel_rfl) (fun _ _ _ h => h) rfl
                  · (intro W'; go_simp; try rfl)
                  · (go_simp; try rfl)
                  refine rp_only 10 (by kernel_rfl) rfl (fun K hK => ?_)
                  obtain ⟨t1, t2, t3⟩ := HT.out.all
                  go_simp
                  have HX5 := Lib.hid (And.intro (below_st8 HB4.out (Nat.le_of_lt HTl.out) (.int .i64 0) (.int .i64 0) (.int .i64 0) (.int .i64 0) (.int .i64 0) (.int .i64 0) (.int .i64 0) (.slice none 0 0)) (far_st8 HG4.out (Nat.ne_of_lt HTl.out) (.int .i64 0) (.int .i64 0) (.int .i64 0) (.int .i64 0) (.int .i64 0) (.int .i64 0) (.int .i64 0) (.slice none 0 0)))
                  refine hK _ _ ⟨fun _ _ => HX5.out.2.cell, ?_⟩; clear hK K t1 t2 t3
                  apply rp_pure 11 rfl (by kernel_rfl) (fun _ _ _ h => h) rfl
                  · (intro W'; go_simp; try rfl)
                  · (go_simp; try rfl)
                  refine rp_done (by kernel_rfl) ?_
                  go_wp2_with fail
                  go_meet
                  exact ⟨rfl, Lib.hid HX5.out.1⟩
              · skip
                go_simp
                have hal := (Below.refl V2.heap.size V2).alloc (Nat.le_refl _) (.cells #[.int .i64 0, .int .i64 0, .int .i64 0, .int .i64 0, .int .i64 0, .int .i64 0, .int .i64 0, .slice none 0 0] 28)
                have HT := Lib.hid (Blk.new V2 28 #[.int .i64 0, .int .i64 0, .int .i64 0, .int .i64 0, .int .i64 0, .int .i64 0, .int .i64 0, .slice none 0 0])
                have HTl := Lib.hid (show w.heap.size < V2.heap.size from HG4.out.lt)
                replace HB4 := Lib.hid (HB4.out.trans ((hal).mono HB4.out.size))
                replace HG4 := Lib.hid (HG4.out.below (hal))
                replace HTW := Lib.hid (HTW.out.below (hal))
                replace HZB := Lib.hid (HZB.out.below (hal))
                obtain ⟨V3, hV3⟩ : ∃ x, x = V2.alloc (.cells #[.int .i64 0, .int .i64 0, .int .i64 0, .int .i64 0, .int .i64 0, .int .i64 0, .int .i64 0, .slice none 0 0] 28) := ⟨_, rfl⟩
                have hqt : V2.heap.size = V2.heap.size := rfl
                rw [← hV3] at HB4 HG4 HTW HZB HT ⊢
                clear hV3 hal hqt
                refine hK _ _ ⟨fun _ _ => HG4.out.cell, ?_⟩; clear hK K
                clear hS
                have hS := Lib.hid HG4.out.cell
                refine rp_only 4 (by kernel_rfl) rfl (fun K hK => ?_)
                have hS3 : SlR V3 (fun b => noM b ∨ (Value.slice pt X.length ct).ownBlock = some b) (.slice (some ⟨q3, 0, none⟩) 1 1) [(0 : UInt8)] := SlR.one (α := UInt8) (x := (0 : UInt8)) (cs := [.int .u8 0]) HZB.out rfl (fun h => h.elim (fun h => h) HNE.out)
                refine step_append_R (α := UInt8) (M := noM) (base := w.heap.size) (l := X) (m := [(0 : UInt8)]) rfl (by rfl) tyB (by rfl) HTW.out (by rfl) hS3 (by simp; omega) HB4.out.size ?_
                intro v6 wv ho6 hg6 hat6
                obtain ⟨XX, hXX⟩ : ∃ x, x = X ++ [(0 : UInt8)] := ⟨_, rfl⟩
                have hXXl : XX.length ≤ 60 := by rw [hXX]; simp; omega
                rw [← hXX] at ho6
                have HXX := Lib.hid hXX
                clear hXX
                obtain ⟨p6, c6, rfl⟩ := ho6.form
                have HAP := Lib.hid ho6
                replace HB4 := Lib.hid (HB4.out.grown hg6 HB4.out.size (fun b e => HTW.out.own_ge e))
                replace HG4 := Lib.hid (HG4.out.grown hg6 (fun e => HTW.out.ne_ HG4.out (by decide) e.symm))
                replace HT := Lib.hid (HT.out.grown hg6 (fun e => HTW.out.ne_ HT.out (by decide) e.symm))
                clear hS3 ho6 hg6 hat6 HTW HZB
                obtain ⟨V4, hV⟩ : ∃ x, x = wv := ⟨_, rfl⟩
                rw [← hV] at HB4 HG4 HAP HT ⊢
                clear hV
                refine hK _ _ ⟨fun _ _ => HG4.out.cell, ?_⟩; clear hK K
                clear hS
                have hS := Lib.hid HG4.out.cell
                refine rp_only 5 (by kernel_rfl) rfl (fun K hK => ?_)
                have hrd := rread_any ⟨z, d, sp, sl, an⟩ (.slice p6 XX.length c6) XX _ noM (HAP.out.sl (fun _ _ h => h)) (by omega)
                unfold gv at hrd
                simp only at hrd
                go_simp
                ((with_reducible refine hrd.mono ?_); rintro e wv ⟨hU, hBv⟩)
                rcases hU with ⟨hbad, -⟩ | ⟨-, -, rfl⟩ | ⟨-, v9, r9, hr9, -, -⟩
                case inl => exact absurd hbad (by rw [hokg.out]; simp)
                case inr.inr => exact absurd hr9 (by rw [HXX.out, HMORE.out]; simp)
                clear hrd
                replace HB4 := Lib.hid (HB4.out.trans ((hBv).mono HB4.out.size))
                replace HG4 := Lib.hid (HG4.out.below (hBv))
                replace HT := Lib.hid (HT.out.below hBv)
                clear hBv HAP
                obtain ⟨V5, hV⟩ : ∃ x, x = wv := ⟨_, rfl⟩
                rw [← hV] at HB4 HG4 HT ⊢
                clear hV
                unfold zeroR
                refine hK _ _ ⟨fun _ _ => HG4.out.cell, ?_⟩; clear hK K
                clear hS
                have hS := Lib.hid HG4.out.cell
                apply rp_pure 6 rfl (by kernel_rfl) (fun _ _ _ h => h) rfl
                · (intro W'; go_simp; try rfl)
                · (go_simp; try rfl)
                apply rp_pure 7 rfl (by kernel_rfl) (fun _ _ _ h => h) rfl
                · (intro W'; go_simp; try rfl)
                · (go_simp; try rfl)
                apply rp_pure 8 rfl (by kernel_rfl) (fun _ _ _ h => h) rfl
                · (intro W'; go_simp; try rfl)
                · (go_simp; try rfl)
                refine rp_only 10 (by kernel_rfl) rfl (fun K hK => ?_)
                obtain ⟨t1, t2, t3⟩ := HT.out.all
                go_simp
                have HX5 := Lib.hid (And.intro (below_st8 HB4.out (Nat.le_of_lt HTl.out) (.int .i64 0) (.int .i64 0) (.int .i64 0) (.int .i64 0) (.int .i64 0) (.int .i64 0) (.int .i64 0) (.slice none 0 0)) (far_st8 HG4.out (Nat.ne_of_lt HTl.out) (.int .i64 0) (.int .i64 0) (.int .i64 0) (.int .i64 0) (.int .i64 0) (.int .i64 0) (.int .i64 0) (.slice none 0 0)))
                refine hK _ _ ⟨fun _ _ => HX5.out.2.cell, ?_⟩; clear hK K t1 t2 t3
                apply rp_pure 11 rfl (by kernel_rfl) (fun _ _ _ h => h) rfl
                · (intro W'; go_simp; try rfl)
                · (go_simp; try rfl)
                refine rp_done (by kernel_rfl) ?_
                go_wp2_with fail
                go_meet
                exact ⟨rfl, Lib.hid HX5.out.1⟩
            · skip
              go_simp
              have hal := (Below.refl V1.heap.size V1).alloc (Nat.le_refl _) (.cells #[.int .i64 0, .int .i64 0, .int .i64 0, .int .i64 0, .int .i64 0, .int .i64 0, .int .i64 0, .slice none 0 0] 28)
              have HT := Lib.hid (Blk.new V1 28 #[.int .i64 0, .int .i64 0, .int .i64 0, .int .i64 0, .int .i64 0, .int .i64 0, .int .i64 0, .slice none 0 0])
              have HTl := Lib.hid (show w.heap.size < V1.heap.size from HG4.out.lt)
              replace HB4 := Lib.hid (HB4.out.trans ((hal).mono HB4.out.size))
              replace HG4 := Lib.hid (HG4.out.below (hal))
              replace HTW := Lib.hid (HTW.out.below (hal))
              obtain ⟨V2, hV2⟩ : ∃ x, x = V1.alloc (.cells #[.int .i64 0, .int .i64 0, .int .i64 0, .int .i64 0, .int .i64 0, .int .i64 0, .int .i64 0, .slice none 0 0] 28) := ⟨_, rfl⟩
              have hqt : V1.heap.size = V1.heap.size := rfl
              rw [← hV2] at HB4 HG4 HTW HT ⊢
              clear hV2 hal hqt
              refine hK _ _ ⟨fun _ _ => HG4.out.cell, ?_⟩; clear hK K
              clear hS
              have hS := Lib.hid HG4.out.cell
              refine rp_only 3 (by kernel_rfl) rfl (fun K hK => ?_)
              go_simp
              have hal := (Below.refl V2.heap.size V2).alloc (Nat.le_refl _) (.cells #[.int .u8 0] 5)
              have hzb := Blk.new V2 5 #[.int .u8 0]
              have hne0 : (Value.slice pt X.length ct).ownBlock ≠ some V2.heap.size := fun e => by have := HTW.out.own_lt e; omega
              replace HB4 := Lib.hid (HB4.out.trans ((hal).mono HB4.out.size))
              replace HG4 := Lib.hid (HG4.out.below (hal))
              replace HTW := Lib.hid (HTW.out.below (hal))
              replace HT := Lib.hid (HT.out.below hal)
              obtain ⟨q3, hq3⟩ : ∃ q3, q3 = V2.heap.size := ⟨_, rfl⟩
              rw [← hq3] at hzb hne0 ⊢
              have HZB := Lib.hid hzb
              have HNE := Lib.hid hne0
              clear hne0
              clear hzb hal hq3
              obtain ⟨V3, hV⟩ : ∃ x, x = V2.alloc (.cells #[.int .u8 0] 5) := ⟨_, rfl⟩
              rw [← hV] at HB4 HG4 HTW HZB HT ⊢
              clear hV
              refine hK _ _ ⟨fun _ _ => HG4.out.cell, ?_⟩; clear hK K
              clear hS
              have hS := Lib.hid HG4.out.cell
              refine rp_only 4 (by kernel_rfl) rfl (fun K hK => ?_)
              have hS3 : SlR V3 (fun b => noM b ∨ (Value.slice pt X.length ct).ownBlock = some b) (.slice (some ⟨q3, 0, none⟩) 1 1) [(0 : UInt8)] := SlR.one (α := UInt8) (x := (0 : UInt8)) (cs := [.int .u8 0]) HZB.out rfl (fun h => h.elim (fun h => h) HNE.out)
              refine step_append_R (α := UInt8) (M := noM) (base := w.heap.size) (l := X) (m := [(0 : UInt8)]) rfl (by rfl) tyB (by rfl) HTW.out (by rfl) hS3 (by simp; omega) HB4.out.size ?_
              intro v6 wv ho6 hg6 hat6
              obtain ⟨XX, hXX⟩ : ∃ x, x = X ++ [(0 : UInt8)] := ⟨_, rfl⟩
              have hXXl : XX.length ≤ 60 := by rw [hXX]; simp; omega
              rw [← hXX] at ho6
              have HXX := Lib.hid hXX
              clear hXX
              obtain ⟨p6, c6, rfl⟩ := ho6.form
              have HAP := Lib.hid ho6
              replace HB4 := Lib.hid (HB4.out.grown hg6 HB4.out.size (fun b e => HTW.out.own_ge e))
              replace HG4 := Lib.hid (HG4.out.grown hg6 (fun e => HTW.out.ne_ HG4.out (by decide) e.symm))
              replace HT := Lib.hid (HT.out.grown hg6 (fun e => HTW.out.ne_ HT.out (by decide) e.symm))
              clear hS3 ho6 hg6 hat6 HTW HZB
              obtain ⟨V4, hV⟩ : ∃ x, x = wv := ⟨_, rfl⟩
              rw [← hV] at HB4 HG4 HAP HT ⊢
              clear hV
              refine hK _ _ ⟨fun _ _ => HG4.out.cell, ?_⟩; clear hK K
              clear hS
              have hS := Lib.hid HG4.out.cell
              refine rp_only 5 (by kernel_rfl) rfl (fun K hK => ?_)
              have hrd := rread_any ⟨z, d, sp, sl, an⟩ (.slice p6 XX.length c6) XX _ noM (HAP.out.sl (fun _ _ h => h)) (by omega)
              unfold gv at hrd
              simp only at hrd
              go_simp
              ((with_reducible refine hrd.mono ?_); rintro e wv ⟨hU, hBv⟩)
              rcases hU with ⟨hbad, -⟩ | ⟨-, -, rfl⟩ | ⟨-, v9, r9, hr9, -, -⟩
              case inl => exact absurd hbad (by rw [hokg.out]; simp)
              case inr.inr => exact absurd hr9 (by rw [HXX.out, HMORE.out]; simp)
              clear hrd
              replace HB4 := Lib.hid (HB4.out.trans ((hBv).mono HB4.out.size))
              replace HG4 := Lib.hid (HG4.out.below (hBv))
              replace HT := Lib.hid (HT.out.below hBv)
              clear hBv HAP
              obtain ⟨V5, hV⟩ : ∃ x, x = wv := ⟨_, rfl⟩
              rw [← hV] at HB4 HG4 HT ⊢
              clear hV
              unfold zeroR
              refine hK _ _ ⟨fun _ _ => HG4.out.cell, ?_⟩; clear hK K
              clear hS
              have hS := Lib.hid HG4.out.cell
              apply rp_pure 6 rfl (by kernel_rfl) (fun _ _ _ h => h) rfl
              · (intro W'; go_simp; try rfl)
              · (go_simp; try rfl)
              apply rp_pure 7 rfl (by kernel_rfl) (fun _ _ _ h => h) rfl
              · (intro W'; go_simp; try rfl)
              · (go_simp; try rfl)
              apply rp_pure 8 rfl (by kernel_rfl) (fun _ _ _ h => h) rfl
              · (intro W'; go_simp; try rfl)
              · (go_simp; try rfl)
              refine rp_only 10 (by kernel_rfl) rfl (fun K hK => ?_)
              obtain ⟨t1, t2, t3⟩ := HT.out.all
              go_simp
              have HX5 := Lib.hid (And.intro (below_st8 HB4.out (Nat.le_of_lt HTl.out) (.int .i64 0) (.int .i64 0) (.int .i64 0) (.int .i64 0) (.int .i64 0) (.int .i64 0) (.int .i64 0) (.slice none 0 0)) (far_st8 HG4.out (Nat.ne_of_lt HTl.out) (.int .i64 0) (.int .i64 0) (.int .i64 0) (.int .i64 0) (.int .i64 0) (.int .i64 0) (.int .i64 0) (.slice none 0 0)))
              refine hK _ _ ⟨fun _ _ => HX5.out.2.cell, ?_⟩; clear hK K t1 t2 t3
              apply rp_pure 11 rfl (by kernel_rfl) (fun _ _ _ h => h) rfl
              · (intro W'; go_simp; try rfl)
              · (go_simp; try rfl)
              refine rp_done (by kernel_rfl) ?_
              go_wp2_with fail
              go_meet
              exact ⟨rfl, Lib.hid HX5.out.1⟩
          · skip
            go_simp
            have hal := (Below.refl V0.heap.size V0).alloc (Nat.le_refl _) (.cells #[.int .u8 0] 5)
            have hzb := Blk.new V0 5 #[.int .u8 0]
            replace HB4 := Lib.hid (HB4.out.trans ((hal).mono HB4.out.size))
            replace HG4 := Lib.hid (HG4.out.below (hal))
            replace HX4 := Lib.hid (HX4.out.below (hal))
            obtain ⟨q3, hq3⟩ : ∃ q3, q3 = V0.heap.size := ⟨_, rfl⟩
            rw [← hq3] at hzb  ⊢
            have HZB := Lib.hid hzb
            clear hzb hal hq3
            obtain ⟨V1, hV⟩ : ∃ x, x = V0.alloc (.cells #[.int .u8 0] 5) := ⟨_, rfl⟩
            rw [← hV] at HB4 HG4 HX4 HZB ⊢
            clear hV
            refine hK _ _ ⟨fun _ _ => HG4.out.cell, ?_⟩; clear hK K
            clear hS
            have hS := Lib.hid HG4.out.cell
            refine rp_two 2 9 (by kernel_rfl) rfl rfl (fun K hK => ?_) (fun K hK => ?_)
            · skip
              go_simp
              refine (twinO_any (.slice px X.length cx) X V1 noM (HX4.out.sl (fun _ _ h => h)) (by omega)).mono ?_
              rintro e wv ⟨rt, rfl, htw, hBv⟩
              obtain ⟨pt, ct, rfl⟩ := htw.form
              have hq3l := HZB.out.lt
              have HNE : Hid ((Value.slice pt X.length ct).ownBlock ≠ some q3) := Lib.hid (fun e => by have := htw.own_ge e; omega)
              clear hq3l
              have HTW := Lib.hid (htw.mono_base (base' := w.heap.size) HB4.out.size)
              replace HB4 := Lib.hid (HB4.out.trans ((hBv).mono HB4.out.size))
              replace HG4 := Lib.hid (HG4.out.below (hBv))
              replace HX4 := Lib.hid (HX4.out.below (hBv))
              replace HZB := Lib.hid (HZB.out.below (hBv))
              clear hBv htw HX4
              obtain ⟨V2, hV⟩ : ∃ x, x = wv := ⟨_, rfl⟩
              rw [← hV] at HB4 HG4 HZB HTW ⊢
              clear hV
              refine hK _ _ ⟨fun _ _ => HG4.out.cell, ?_⟩; clear hK K
              clear hS
              have hS := Lib.hid HG4.out.cell
              refine rp_two 4 9 (by kernel_rfl) rfl rfl (fun K hK => ?_) (fun K hK => ?_)
              · skip
                have hS3 : SlR V2 (fun b => noM b ∨ (Value.slice pt X.length ct).ownBlock = some b) (.slice (some ⟨q3, 0, none⟩) 1 1) [(0 : UInt8)] := SlR.one (α := UInt8) (x := (0 : UInt8)) (cs := [.int .u8 0]) HZB.out rfl (fun h => h.elim (fun h => h) HNE.out)
                refine step_append_R (α := UInt8) (M := noM) (base := w.heap.size) (l := X) (m := [(0 : UInt8)]) rfl (by rfl) tyB (by rfl) HTW.out (by rfl) hS3 (by simp; omega) HB4.out.size ?_
                intro v6 wv ho6 hg6 hat6
                obtain ⟨XX, hXX⟩ : ∃ x, x = X ++ [(0 : UInt8)] := ⟨_, rfl⟩
                have hXXl : XX.length ≤ 60 := by rw [hXX]; simp; omega
                rw [← hXX] at ho6
                have HXX := Lib.hid hXX
                clear hXX
                obtain ⟨p6, c6, rfl⟩ := ho6.form
                have HAP := Lib.hid ho6
                replace HB4 := Lib.hid (HB4.out.grown hg6 HB4.out.size (fun b e => HTW.out.own_ge e))
                replace HG4 := Lib.hid (HG4.out.grown hg6 (fun e => HTW.out.ne_ HG4.out (by decide) e.symm))
                clear hS3 ho6 hg6 hat6 HTW HZB
                obtain ⟨V3, hV⟩ : ∃ x, x = wv := ⟨_, rfl⟩
                rw [← hV] at HB4 HG4 HAP ⊢
                clear hV
                refine hK _ _ ⟨fun _ _ => HG4.out.cell, ?_⟩; clear hK K
                clear hS
                have hS := Lib.hid HG4.out.cell
                refine rp_two 5 9 (by kernel_rfl) rfl rfl (fun K hK => ?_) (fun K hK => ?_)
                · skip
                  have hrd := rread_any ⟨z, d, sp, sl, an⟩ (.slice p6 XX.length c6) XX _ noM (HAP.out.sl (fun _ _ h => h)) (by omega)
                  unfold gv at hrd
                  simp only at hrd
                  go_simp
                  ((with_reducible refine hrd.mono ?_); rintro e wv ⟨hU, hBv⟩)
                  rcases hU with ⟨hbad, -⟩ | ⟨-, -, rfl⟩ | ⟨-, v9, r9, hr9, -, -⟩
                  case inl => exact absurd hbad (by rw [hokg.out]; simp)
                  case inr.inr => exact absurd hr9 (by rw [HXX.out, HMORE.out]; simp)
                  clear hrd
                  replace HB4 := Lib.hid (HB4.out.trans ((hBv).mono HB4.out.size))
                  replace HG4 := Lib.hid (HG4.out.below (hBv))
                  clear hBv HAP
                  obtain ⟨V4, hV⟩ : ∃ x, x = wv := ⟨_, rfl⟩
                  rw [← hV] at HB4 HG4 ⊢
                  clear hV
                  unfold zeroR
                  refine hK _ _ ⟨fun _ _ => HG4.out.cell, ?_⟩; clear hK K
                  clear hS
                  have hS := Lib.hid HG4.out.cell
                  apply rp_pure 6 rfl (by kernel_rfl) (fun _ _ _ h => h) rfl
                  · (intro W'; go_simp; try rfl)
                  · (go_simp; try rfl)
                  apply rp_pure 7 rfl (by kernel_rfl) (fun _ _ _ h => h) rfl
                  · (intro W'; go_simp; try rfl)
                  · (go_simp; try rfl)
                  apply rp_pure 8 rfl (by kernel_rfl) (fun _ _ _ h => h) rfl
                  · (intro W'; go_simp; try rfl)
                  · (go_simp; try rfl)
                  refine rp_only 9 (by kernel_rfl) rfl (fun K hK => ?_)
                  go_simp
                  have hal := (Below.refl V4.heap.size V4).alloc (Nat.le_refl _) (.cells #[.int .i64 0, .int .i64 0, .int .i64 0, .int .i64 0, .int .i64 0, .int .i64 0, .int .i64 0, .slice none 0 0] 28)
                  have HT := Lib.hid (Blk.new V4 28 #[.int .i64 0, .int .i64 0, .int .i64 0, .int .i64 0, .int .i64 0, .int .i64 0, .int .i64 0, .slice none 0 0])
                  have HTl := Lib.hid (show w.heap.size < V4.heap.size from HG4.out.lt)
                  replace HB4 := Lib.hid (HB4.out.trans ((hal).mono HB4.out.size))
                  replace HG4 := Lib.hid (HG4.out.below (hal))
                  obtain ⟨V5, hV5⟩ : ∃ x, x = V4.alloc (.cells #[.int .i64 0, .int .i64 0, .int .i64 0, .int .i64 0, .int .i64 0, .int .i64 0, .int .i64 0, .slice none 0 0] 28) := ⟨_, rfl⟩
                  have hqt : V4.heap.size = V4.heap.size := rfl
                  rw [← hV5] at HB4 HG4 HT ⊢
                  clear hV5 hal hqt
                  refine hK _ _ ⟨fun _ _ => HG4.out.cell, ?_⟩; clear hK K
                  clear hS
                  have hS := Lib.hid HG4.out.cell
                  refine rp_only 10 (by kernel_rfl) rfl (fun K hK => ?_)
                  obtain ⟨t1, t2, t3⟩ := HT.out.all
                  go_simp
                  have HX5 := Lib.hid (And.intro (below_st8 HB4.out (Nat.le_of_lt HTl.out) (.int .i64 0) (.int .i64 0) (.int .i64 0) (.int .i64 0) (.int .i64 0) (.int .i64 0) (.int .i64 0) (.slice none 0 0)) (far_st8 HG4.out (Nat.ne_of_lt HTl.out) (.int .i64 0) (.int .i64 0) (.int .i64 0) (.int .i64 0) (.int .i64 0) (.int .i64 0) (.int .i64 0) (.slice none 0 0)))
                  refine hK _ _ ⟨fun _ _ => HX5.out.2.cell, ?_⟩; clear hK K t1 t2 t3
                  apply rp_pure 11 rfl (by kernel_rfl) (fun _ _ _ h => h) rfl
                  · (intro W'; go_simp; try rfl)
                  · (go_simp; try rfl)
                  refine rp_done (by kernel_rfl) ?_
                  go_wp2_with fail
                  go_meet
                  exact ⟨rfl, Lib.hid HX5.out.1⟩
                · skip
                  go_simp
                  have hal := (Below.refl V3.heap.size V3).alloc (Nat.le_refl _) (.cells #[.int .i64 0, .int .i64 0, .int .i64 0, .int .i64 0, .int .i64 0, .int .i64 0, .int .i64 0, .slice none 0 0] 28)
                  have HT := Lib.hid (Blk.new V3 28 #[.int .i64 0, .int .i64 0, .int .i64 0, .int .i64 0, .int .i64 0, .int .i64 0, .int .i64 0, .slice none 0 0])
                  have HTl := Lib.hid (show w.heap.size < V3.heap.size from HG4.out.lt)
                  replace HB4 := Lib.hid (HB4.out.trans ((hal).mono HB4.out.size))
                  replace HG4 := Lib.hid (HG4.out.below (hal))
                  replace HAP := Lib.hid (HAP.out.below (hal))
                  obtain ⟨V4, hV4⟩ : ∃ x, x = V3.alloc (.cells #[.int .i64 0, .int .i64 0, .int .i64 0, .int .i64 0, .int .i64 0, .int .i64 0, .int .i64 0, .slice none 0 0] 28) := ⟨_, rfl⟩
                  have hqt : V3.heap.size = V3.heap.size := rfl
                  rw [← hV4] at HB4 HG4 HAP HT ⊢
                  clear hV4 hal hqt
                  refine hK _ _ ⟨fun _ _ => HG4.out.cell, ?_⟩; clear hK K
                  clear hS
                  have hS := Lib.hid HG4.out.cell
                  refine rp_only 5 (by kernel_rfl) rfl (fun K hK => ?_)
                  have hrd := rread_any ⟨z, d, sp, sl, an⟩ (.slice p6 XX.length c6) XX _ noM (HAP.out.sl (fun _ _ h => h)) (by omega)
                  unfold gv at hrd
                  simp only at hrd
                  go_simp
                  ((with_reducible refine hrd.mono ?_); rintro e wv ⟨hU, hBv⟩)
                  rcases hU with ⟨hbad, -⟩ | ⟨-, -, rfl⟩ | ⟨-, v9, r9, hr9, -, -⟩
                  case inl => exact absurd hbad (by rw [hokg.out]; simp)
                  case inr.inr => exact absurd hr9 (by rw [HXX.out, HMORE.out]; simp)
                  clear hrd
                  replace HB4 := Lib.hid (HB4.out.trans ((hBv).mono HB4.out.size))
                  replace HG4 := Lib.hid (HG4.out.below (hBv))
                  replace HT := Lib.hid (HT.out.below hBv)
                  clear hBv HAP
                  obtain ⟨V5, hV⟩ : ∃ x, x = wv := ⟨_, rfl⟩
                  rw [← hV] at HB4 HG4 HT ⊢
                  clear hV
                  unfold zeroR
                  refine hK _ _ ⟨fun _ _ => HG4.out.cell, ?_⟩; clear hK K
                  clear hS
                  have hS := Lib.hid HG4.out.cell
                  apply rp_pure 6 rfl (by kernel_rfl) (fun _ _ _ h => h) rfl
                  · (intro W'; go_simp; try rfl)
                  · (go_simp; try rfl)
                  apply rp_pure 7 rfl (by kernel_rfl) (fun _ _ _ h => h) rfl
                  · (intro W'; go_simp; try rfl)
                  · (go_simp; try rfl)
                  apply rp_pure 8 rfl (by kernel_rfl) (fun _ _ _ h => h) rfl
                  · (intro W'; go_simp; try rfl)
                  · (go_simp; try rfl)
                  refine rp_only 10 (by kernel_rfl) rfl (fun K hK => ?_)
                  obtain ⟨t1, t2, t3⟩ := HT.out.all
                  go_simp
                  have HX5 := Lib.hid (And.intro (below_st8 HB4.out (Nat.le_of_lt HTl.out) (.int .i64 0) (.int .i64 0) (.int .i64 0) (.int .i64 0) (.int .i64 0) (.int .i64 0) (.int .i64 0) (.slice none 0 0)) (far_st8 HG4.out (Nat.ne_of_lt HTl.out) (.int .i64 0) (.int .i64 0) (.int .i64 0) (.int .i64 0) (.int .i64 0) (.int .i64 0) (.int .i64 0) (.slice none 0 0)))
                  refine hK _ _ ⟨fun _ _ => HX5.out.2.cell, ?_⟩; clear hK K t1 t2 t3
                  apply rp_pure 11 rfl (by kernel_rfl) (fun _ _ _ h => h) rfl
                  · (intro W'; go_simp; try rfl)
                  · (go_simp; try rfl)
                  refine rp_done (by kernel_rfl) ?_
                  go_wp2_with fail
                  go_meet
                  exact ⟨rfl, Lib.hid HX5.out.1⟩
              · skip
                go_simp
                have hal := (Below.refl V2.heap.size V2).alloc (Nat.le_refl _) (.cells #[.int .i64 0, .int .i64 0, .int .i64 0, .int .i64 0, .int .i64 0, .int .i64 0, .int .i64 0, .slice none 0 0] 28)
                have HT := Lib.hid (Blk.new V2 28 #[.int .i64 0, .int .i64 0, .int .i64 0, .int .i64 0, .int .i64 0, .int .i64 0, .int .i64 0, .slice none 0 0])
                have HTl := Lib.hid (show w.heap.size < V2.heap.size from HG4.out.lt)
                replace HB4 := Lib.hid (HB4.out.trans ((hal).mono HB4.out.size))
                replace HG4 := Lib.hid (HG4.out.below (hal))
                replace HZB := Lib.hid (HZB.out.below (hal))
                replace HTW := Lib.hid (HTW.out.below (hal))
                obtain ⟨V3, hV3⟩ : ∃ x, x = V2.alloc (.cells #[.int .i64 0, .int .i64 0, .int .i64 0, .int .i64 0, .int .i64 0, .int .i64 0, .int .i64 0, .slice none 0 0] 28) := ⟨_, rfl⟩
                have hqt : V2.heap.size = V2.heap.size := rfl
                rw [← hV3] at HB4 HG4 HZB HTW HT ⊢
                clear hV3 hal hqt
                refine hK _ _ ⟨fun _ _ => HG4.out.cell, ?_⟩; clear hK K
                clear hS
                have hS := Lib.hid HG4.out.cell
                refine rp_only 4 (by kernel_rfl) rfl (fun K hK => ?_)
                have hS3 : SlR V3 (fun b => noM b ∨ (Value.slice pt X.length ct).ownBlock = some b) (.slice (some ⟨q3, 0, none⟩) 1 1) [(0 : UInt8)] := SlR.one (α := UInt8) (x := (0 : UInt8)) (cs := [.int .u8 0]) HZB.out rfl (fun h => h.elim (fun h => h) HNE.out)
                refine step_append_R (α := UInt8) (M := noM) (base := w.heap.size) (l := X) (m := [(0 : UInt8)]) rfl (by rfl) tyB (by rfl) HTW.out (by rfl) hS3 (by simp; omega) HB4.out.size ?_
                intro v6 wv ho6 hg6 hat6
                obtain ⟨XX, hXX⟩ : ∃ x, x = X ++ [(0 : UInt8)] := ⟨_, rfl⟩
                have hXXl : XX.length ≤ 60 := by rw [hXX]; simp; omega
                rw [← hXX] at ho6
                have HXX := Lib.hid hXX
                clear hXX
                obtain ⟨p6, c6, rfl⟩ := ho6.form
                have HAP := Lib.hid ho6
                replace HB4 := Lib.hid (HB4.out.grown hg6 HB4.out.size (fun b e => HTW.out.own_ge e))
                replace HG4 := Lib.hid (HG4.out.grown hg6 (fun e => HTW.out.ne_ HG4.out (by decide) e.symm))
                replace HT := Lib.hid (HT.out.grown hg6 (fun e => HTW.out.ne_ HT.out (by decide) e.symm))
                clear hS3 ho6 hg6 hat6 HTW HZB
                obtain ⟨V4, hV⟩ : ∃ x, x = wv := ⟨_, rfl⟩
                rw [← hV] at HB4 HG4 HAP HT ⊢
                clear hV
                refine hK _ _ ⟨fun _ _ => HG4.out.cell, ?_⟩; clear hK K
                clear hS
                have hS := Lib.hid HG4.out.cell
                refine rp_only 5 (by kernel_rfl) rfl (fun K hK => ?_)
                have hrd := rread_any ⟨z, d, sp, sl, an⟩ (.slice p6 XX.length c6) XX _ noM (HAP.out.sl (fun _ _ h => h)) (by omega)
                unfold gv at hrd
                simp only at hrd
                go_simp
                ((with_reducible refine hrd.mono ?_); rintro e wv ⟨hU, hBv⟩)
                rcases hU with ⟨hbad, -⟩ | ⟨-, -, rfl⟩ | ⟨-, v9, r9, hr9, -, -⟩
                case inl => exact absurd hbad (by rw [hokg.out]; simp)
                case inr.inr => exact absurd hr9 (by rw [HXX.out, HMORE.out]; simp)
                clear hrd
                replace HB4 := Lib.hid (HB4.out.trans ((hBv).mono HB4.out.size))
                replace HG4 := Lib.hid (HG4.out.below (hBv))
                replace HT := Lib.hid (HT.out.below hBv)
                clear hBv HAP
                obtain ⟨V5, hV⟩ : ∃ x, x = wv := ⟨_, rfl⟩
                rw [← hV] at HB4 HG4 HT ⊢
                clear hV
                unfold zeroR
                refine hK _ _ ⟨fun _ _ => HG4.out.cell, ?_⟩; clear hK K
                clear hS
                have hS := Lib.hid HG4.out.cell
                apply rp_pure 6 rfl (by kernel_rfl) (fun _ _ _ h => h) rfl
                · (intro W'; go_simp; try rfl)
                · (go_simp; try rfl)
                apply rp_pure 7 rfl (by kernel_rfl) (fun _ _ _ h => h) rfl
                · (intro W'; go_simp; try rfl)
                · (go_simp; try rfl)
                apply rp_pure 8 rfl (by kernel_rfl) (fun _ _ _ h => h) rfl
                · (intro W'; go_simp; try rfl)
                · (go_simp; try rfl)
                refine rp_only 10 (by kernel_rfl) rfl (fun K hK => ?_)
                obtain ⟨t1, t2, t3⟩ := HT.out.all
                go_simp
                have HX5 := Lib.hid (And.intro (below_st8 HB4.out (Nat.le_of_lt HTl.out) (.int .i64 0) (.int .i64 0) (.int .i64 0) (.int .i64 0) (.int .i64 0) (.int .i64 0) (.int .i64 0) (.slice none 0 0)) (far_st8 HG4.out (Nat.ne_of_lt HTl.out) (.int .i64 0) (.int .i64 0) (.int .i64 0) (.int .i64 0) (.int .i64 0) (.int .i64 0) (.int .i64 0) (.slice none 0 0)))
                refine hK _ _ ⟨fun _ _ => HX5.out.2.cell, ?_⟩; clear hK K t1 t2 t3
                apply rp_pure 11 rfl (by kernel_rfl) (fun _ _ _ h => h) rfl
                · (intro W'; go_simp; try rfl)
                · (go_simp; try rfl)
                refine rp_done (by kernel_rfl) ?_
                go_wp2_with fail
                go_meet
                exact ⟨rfl, Lib.hid HX5.out.1⟩
            · skip
              go_simp
              have hal := (Below.refl V1.heap.size V1).alloc (Nat.le_refl _) (.cells #[.int .i64 0, .int .i64 0, .int .i64 0, .int .i64 0, .int .i64 0, .int .i64 0, .int .i64 0, .slice none 0 0] 28)
              have HT := Lib.hid (Blk.new V1 28 #[.int .i64 0, .int .i64 0, .int .i64 0, .int .i64 0, .int .i64 0, .int .i64 0, .int .i64 0, .slice none 0 0])
              have HTl := Lib.hid (show w.heap.size < V1.heap.size from HG4.out.lt)
              replace HB4 := Lib.hid (HB4.out.trans ((hal).mono HB4.out.size))
              replace HG4 := Lib.hid (HG4.out.below (hal))
              replace HX4 := Lib.hid (HX4.out.below (hal))
              replace HZB := Lib.hid (HZB.out.below (hal))
              obtain ⟨V2, hV2⟩ : ∃ x, x = V1.alloc (.cells #[.int .i64 0, .int .i64 0, .int .i64 0, .int .i64 0, .int .i64 0, .int .i64 0, .int .i64 0, .slice none 0 0] 28) := ⟨_, rfl⟩
              have hqt : V1.heap.size = V1.heap.size := rfl
              rw [← hV2] at HB4 HG4 HX4 HZB HT ⊢
              clear hV2 hal hqt
              refine hK _ _ ⟨fun _ _ => HG4.out.cell, ?_⟩; clear hK K
              clear hS
              have hS := Lib.hid HG4.out.cell
              refine rp_only 2 (by kernel_rfl) rfl (fun K hK => ?_)
              go_simp
              refine (twinO_any (.slice px X.length cx) X V2 noM (HX4.out.sl (fun _ _ h => h)) (by omega)).mono ?_
              rintro e wv ⟨rt, rfl, htw, hBv⟩
              obtain ⟨pt, ct, rfl⟩ := htw.form
              have hq3l := HZB.out.lt
              have HNE : Hid ((Value.slice pt X.length ct).ownBlock ≠ some q3) := Lib.hid (fun e => by have := htw.own_ge e; omega)
              clear hq3l
              have HTW := Lib.hid (htw.mono_base (base' := w.heap.size) HB4.out.size)
              replace HB4 := Lib.hid (HB4.out.trans ((hBv).mono HB4.out.size))
              replace HG4 := Lib.hid (HG4.out.below (hBv))
              replace HX4 := Lib.hid (HX4.out.below (hBv))
              replace HZB := Lib.hid (HZB.out.below (hBv))
              replace HT := Lib.hid (HT.out.below hBv)
              clear hBv htw HX4
              obtain ⟨V3, hV⟩ : ∃ x, x = wv := ⟨_, rfl⟩
              rw [← hV] at HB4 HG4 HZB HTW HT ⊢
              clear hV
              refine hK _ _ ⟨fun _ _ => HG4.out.cell, ?_⟩; clear hK K
              clear hS
              have hS := Lib.hid HG4.out.cell
              refine rp_only 4 (by kernel_rfl) rfl (fun K hK => ?_)
              have hS3 : SlR V3 (fun b => noM b ∨ (Value.slice pt X.length ct).ownBlock = some b) (.slice (some ⟨q3, 0, none⟩) 1 1) [(0 : UInt8)] := SlR.one (α := UInt8) (x := (0 : UInt8)) (cs := [.int .u8 0]) HZB.out rfl (fun h => h.elim (fun h => h) HNE.out)
              refine step_append_R (α := UInt8) (M := noM) (base := w.heap.size) (l := X) (m := [(0 : UInt8)]) rfl (by rfl) tyB (by rfl) HTW.out (by rfl) hS3 (by simp; omega) HB4.out.size ?_
              intro v6 wv ho6 hg6 hat6
              obtain ⟨XX, hXX⟩ : ∃ x, x = X ++ [(0 : UInt8)] := ⟨_, rfl⟩
              have hXXl : XX.length ≤ 60 := by rw [hXX]; simp; omega
              rw [← hXX] at ho6
              have HXX := Lib.hid hXX
              clear hXX
              obtain ⟨p6, c6, rfl⟩ := ho6.form
              have HAP := Lib.hid ho6
              replace HB4 := Lib.hid (HB4.out.grown hg6 HB4.out.size (fun b e => HTW.out.own_ge e))
              replace HG4 := Lib.hid (HG4.out.grown hg6 (fun e => HTW.out.ne_ HG4.out (by decide) e.symm))
              replace HT := Lib.hid (HT.out.grown hg6 (fun e => HTW.out.ne_ HT.out (by decide) e.symm))
              clear hS3 ho6 hg6 hat6 HTW HZB
              obtain ⟨V4, hV⟩ : ∃ x, x = wv := ⟨_, rfl⟩
              rw [← hV] at HB4 HG4 HAP HT ⊢
              clear hV
              refine hK _ _ ⟨fun _ _ => HG4.out.cell, ?_⟩; clear hK K
              clear hS
              have hS := Lib.hid HG4.out.cell
              refine rp_only 5 (by kernel_rfl) rfl (fun K hK => ?_)
              have hrd := rread_any ⟨z, d, sp, sl, an⟩ (.slice p6 XX.length c6) XX _ noM (HAP.out.sl (fun _ _ h => h)) (by omega)
              unfold gv at hrd
              simp only at hrd
              go_simp
              ((with_reducible refine hrd.mono ?_); rintro e wv ⟨hU, hBv⟩)
              rcases hU with ⟨hbad, -⟩ | ⟨-, -, rfl⟩ | ⟨-, v9, r9, hr9, -, -⟩
              case inl => exact absurd hbad (by rw [hokg.out]; simp)
              case inr.inr => exact absurd hr9 (by rw [HXX.out, HMORE.out]; simp)
              clear hrd
              replace HB4 := Lib.hid (HB4.out.trans ((hBv).mono HB4.out.size))
              replace HG4 := Lib.hid (HG4.out.below (hBv))
              replace HT := Lib.hid (HT.out.below hBv)
              clear hBv HAP
              obtain ⟨V5, hV⟩ : ∃ x, x = wv := ⟨_, rfl⟩
              rw [← hV] at HB4 HG4 HT ⊢
              clear hV
              unfold zeroR
              refine hK _ _ ⟨fun _ _ => HG4.out.cell, ?_⟩; clear hK K
              clear hS
              have hS := Lib.hid HG4.out.cell
              apply rp_pure 6 rfl (by kernel_rfl) (fun _ _ _ h => h) rfl
              · (intro W'; go_simp; try rfl)
              · (go_simp; try rfl)
              apply rp_pure 7 rfl (by kernel_rfl) (fun _ _ _ h => h) rfl
              · (intro W'; go_simp; try rfl)
              · (go_simp; try rfl)
              apply rp_pure 8 rfl (by kernel_rfl) (fun _ _ _ h => h) rfl
              · (intro W'; go_simp; try rfl)
              · (go_simp; try rfl)
              refine rp_only 10 (by kernel_rfl) rfl (fun K hK => ?_)
              obtain ⟨t1, t2, t3⟩ := HT.out.all
              go_simp
              have HX5 := Lib.hid (And.intro (below_st8 HB4.out (Nat.le_of_lt HTl.out) (.int .i64 0) (.int .i64 0) (.int .i64 0) (.int .i64 0) (.int .i64 0) (.int .i64 0) (.int .i64 0) (.slice none 0 0)) (far_st8 HG4.out (Nat.ne_of_lt HTl.out) (.int .i64 0) (.int .i64 0) (.int .i64 0) (.int .i64 0) (.int .i64 0) (.int .i64 0) (.int .i64 0) (.slice none 0 0)))
              refine hK _ _ ⟨fun _ _ => HX5.out.2.cell, ?_⟩; clear hK K t1 t2 t3
              apply rp_pure 11 rfl (by kernel_rfl) (fun _ _ _ h => h) rfl
              · (intro W'; go_simp; try rfl)
              · (go_simp; try rfl)
              refine rp_done (by kernel_rfl) ?_
              go_wp2_with fail
              go_meet
              exact ⟨rfl, Lib.hid HX5.out.1⟩
          · skip
            go_simp
            have hal := (Below.refl V0.heap.size V0).alloc (Nat.le_refl _) (.cells #[.int .i64 0, .int .i64 0, .int .i64 0, .int .i64 0, .int .i64 0, .int .i64 0, .int .i64 0, .slice none 0 0] 28)
            have HT := Lib.hid (Blk.new V0 28 #[.int .i64 0, .int .i64 0, .int .i64 0, .int .i64 0, .int .i64 0, .int .i64 0, .int .i64 0, .slice none 0 0])
            have HTl := Lib.hid (show w.heap.size < V0.heap.size from HG4.out.lt)
            replace HB4 := Lib.hid (HB4.out.trans ((hal).mono HB4.out.size))
            replace HG4 := Lib.hid (HG4.out.below (hal))
            replace HX4 := Lib.hid (HX4.out.below (hal))
            obtain ⟨V1, hV1⟩ : ∃ x, x = V0.alloc (.cells #[.int .i64 0, .int .i64 0, .int .i64 0, .int .i64 0, .int .i64 0, .int .i64 0, .int .i64 0, .slice none 0 0] 28) := ⟨_, rfl⟩
            have hqt : V0.heap.size = V0.heap.size := rfl
            rw [← hV1] at HB4 HG4 HX4 HT ⊢
            clear hV1 hal hqt
            refine hK _ _ ⟨fun _ _ => HG4.out.cell, ?_⟩; clear hK K
            clear hS
            have hS := Lib.hid HG4.out.cell
            refine rp_two 2 3 (by kernel_rfl) rfl rfl (fun K hK => ?_) (fun K hK => ?_)
            · skip
              go_simp
              refine (twinO_any (.slice px X.length cx) X V1 noM (HX4.out.sl (fun _ _ h => h)) (by omega)).mono ?_
              rintro e wv ⟨rt, rfl, htw, hBv⟩
              obtain ⟨pt, ct, rfl⟩ := htw.form
              have HTW := Lib.hid (htw.mono_base (base' := w.heap.size) HB4.out.size)
              replace HB4 := Lib.hid (HB4.out.trans ((hBv).mono HB4.out.size))
              replace HG4 := Lib.hid (HG4.out.below (hBv))
              replace HX4 := Lib.hid (HX4.out.below (hBv))
              replace HT := Lib.hid (HT.out.below hBv)
              clear hBv htw HX4
              obtain ⟨V2, hV⟩ : ∃ x, x = wv := ⟨_, rfl⟩
              rw [← hV] at HB4 HG4 HTW HT ⊢
              clear hV
              refine hK _ _ ⟨fun _ _ => HG4.out.cell, ?_⟩; clear hK K
              clear hS
              have hS := Lib.hid HG4.out.cell
              refine rp_only 3 (by kernel_rfl) rfl (fun K hK => ?_)
              go_simp
              have hal := (Below.refl V2.heap.size V2).alloc (Nat.le_refl _) (.cells #[.int .u8 0] 5)
              have hzb := Blk.new V2 5 #[.int .u8 0]
              have hne0 : (Value.slice pt X.length ct).ownBlock ≠ some V2.heap.size := fun e => by have := HTW.out.own_lt e; omega
              replace HB4 := Lib.hid (HB4.out.trans ((hal).mono HB4.out.size))
              replace HG4 := Lib.hid (HG4.out.below (hal))
              replace HTW := Lib.hid (HTW.out.below (hal))
              replace HT := Lib.hid (HT.out.below hal)
              obtain ⟨q3, hq3⟩ : ∃ q3, q3 = V2.heap.size := ⟨_, rfl⟩
              rw [← hq3] at hzb hne0 ⊢
              have HZB := Lib.hid hzb
              have HNE := Lib.hid hne0
              clear hne0
              clear hzb hal hq3
              obtain ⟨V3, hV⟩ : ∃ x, x = V2.alloc (.cells #[.int .u8 0] 5) := ⟨_, rfl⟩
              rw [← hV] at HB4 HG4 HTW HZB HT ⊢
              clear hV
              refine hK _ _ ⟨fun _ _ => HG4.out.cell, ?_⟩; clear hK K
              clear hS
              have hS := Lib.hid HG4.out.cell
              refine rp_only 4 (by kernel_rfl) rfl (fun K hK => ?_)
              have hS3 : SlR V3 (fun b => noM b ∨ (Value.slice pt X.length ct).ownBlock = some b) (.slice (some ⟨q3, 0, none⟩) 1 1) [(0 : UInt8)] := SlR.one (α := UInt8) (x := (0 : UInt8)) (cs := [.int .u8 0]) HZB.out rfl (fun h => h.elim (fun h => h) HNE.out)
              refine step_append_R (α := UInt8) (M := noM) (base := w.heap.size) (l := X) (m := [(0 : UInt8)]) rfl (by rfl) tyB (by rfl) HTW.out (by rfl) hS3 (by simp; omega) HB4.out.size ?_
              intro v6 wv ho6 hg6 hat6
              obtain ⟨XX, hXX⟩ : ∃ x, x = X ++ [(0 : UInt8)] := ⟨_, rfl⟩
              have hXXl : XX.length ≤ 60 := by rw [hXX]; simp; omega
              rw [← hXX] at ho6
              have HXX := Lib.hid hXX
              clear hXX
              obtain ⟨p6, c6, rfl⟩ := ho6.form
              have HAP := Lib.hid ho6
              replace HB4 := Lib.hid (HB4.out.grown hg6 HB4.out.size (fun b e => HTW.out.own_ge e))
              replace HG4 := Lib.hid (HG4.out.grown hg6 (fun e => HTW.out.ne_ HG4.out (by decide) e.symm))
              replace HT := Lib.hid (HT.out.grown hg6 (fun e => HTW.out.ne_ HT.out (by decide) e.symm))
              clear hS3 ho6 hg6 hat6 HTW HZB
              obtain ⟨V4, hV⟩ : ∃ x, x = wv := ⟨_, rfl⟩
              rw [← hV] at HB4 HG4 HAP HT ⊢
              clear hV
              refine hK _ _ ⟨fun _ _ => HG4.out.cell, ?_⟩; clear hK K
              clear hS
              have hS := Lib.hid HG4.out.cell
              refine rp_only 5 (by kernel_rfl) rfl (fun K hK => ?_)
              have hrd := rread_any ⟨z, d, sp, sl, an⟩ (.slice p6 XX.length c6) XX _ noM (HAP.out.sl (fun _ _ h => h)) (by omega)
              unfold gv at hrd
              simp only at hrd
              go_simp
              ((with_reducible refine hrd.mono ?_); rintro e wv ⟨hU, hBv⟩)
              rcases hU with ⟨hbad, -⟩ | ⟨-, -, rfl⟩ | ⟨-, v9, r9, hr9, -, -⟩
              case inl => exact absurd hbad (by rw [hokg.out]; simp)
              case inr.inr => exact absurd hr9 (by rw [HXX.out, HMORE.out]; simp)
              clear hrd
              replace HB4 := Lib.hid (HB4.out.trans ((hBv).mono HB4.out.size))
              replace HG4 := Lib.hid (HG4.out.below (hBv))
              replace HT := Lib.hid (HT.out.below hBv)
              clear hBv HAP
              obtain ⟨V5, hV⟩ : ∃ x, x = wv := ⟨_, rfl⟩
              rw [← hV] at HB4 HG4 HT ⊢
              clear hV
              unfold zeroR
              refine hK _ _ ⟨fun _ _ => HG4.out.cell, ?_⟩; clear hK K
              clear hS
              have hS := Lib.hid HG4.out.cell
              apply rp_pure 6 rfl (by kernel_rfl) (fun _ _ _ h => h) rfl
              · (intro W'; go_simp; try rfl)
              · (go_simp; try rfl)
              apply rp_pure 7 rfl (by kernel_rfl) (fun _ _ _ h => h) rfl
              · (intro W'; go_simp; try rfl)
              · (go_simp; try rfl)
              apply rp_pure 8 rfl (by kernel_rfl) (fun _ _ _ h => h) rfl
              · (intro W'; go_simp; try rfl)
              · (go_simp; try rfl)
              refine rp_only 10 (by kernel_rfl) rfl (fun K hK => ?_)
              obtain ⟨t1, t2, t3⟩ := HT.out.all
              go_simp
              have HX5 := Lib.hid (And.intro (below_st8 HB4.out (Nat.le_of_lt HTl.out) (.int .i64 0) (.int .i64 0) (.int .i64 0) (.int .i64 0) (.int .i64 0) (.int .i64 0) (.int .i64 0) (.slice none 0 0)) (far_st8 HG4.out (Nat.ne_of_lt HTl.out) (.int .i64 0) (.int .i64 0) (.int .i64 0) (.int .i64 0) (.int .i64 0) (.int .i64 0) (.int .i64 0) (.slice none 0 0)))
              refine hK _ _ ⟨fun _ _ => HX5.out.2.cell, ?_⟩; clear hK K t1 t2 t3
              apply rp_pure 11 rfl (by kernel_rfl) (fun _ _ _ h => h) rfl
              · (intro W'; go_simp; try rfl)
              · (go_simp; try rfl)
              refine rp_done (by kernel_rfl) ?_
              go_wp2_with fail
              go_meet
              exact ⟨rfl, Lib.hid HX5.out.1⟩
            · skip
              go_simp
              have hal := (Below.refl V1.heap.size V1).alloc (Nat.le_refl _) (.cells #[.int .u8 0] 5)
              have hzb := Blk.new V1 5 #[.int .u8 0]
              replace HB4 := Lib.hid (HB4.out.trans ((hal).mono HB4.out.size))
              replace HG4 := Lib.hid (HG4.out.below (hal))
              replace HX4 := Lib.hid (HX4.out.below (hal))
              replace HT := Lib.hid (HT.out.below hal)
              obtain ⟨q3, hq3⟩ : ∃ q3, q3 = V1.heap.size := ⟨_, rfl⟩
              rw [← hq3] at hzb  ⊢
              have HZB := Lib.hid hzb
              clear hzb hal hq3
              obtain ⟨V2, hV⟩ : ∃ x, x = V1.alloc (.cells #[.int .u8 0] 5) := ⟨_, rfl⟩
              rw [← hV] at HB4 HG4 HX4 HZB HT ⊢
              clear hV
              refine hK _ _ ⟨fun _ _ => HG4.out.cell, ?_⟩; clear hK K
              clear hS
              have hS := Lib.hid HG4.out.cell
              refine rp_only 2 (by kernel_rfl) rfl (fun K hK => ?_)
              go_simp
              refine (twinO_any (.slice px X.length cx) X V2 noM (HX4.out.sl (fun _ _ h => h)) (by omega)).mono ?_
              rintro e wv ⟨rt, rfl, htw, hBv⟩
              obtain ⟨pt, ct, rfl⟩ := htw.form
              have hq3l := HZB.out.lt
              have HNE : Hid ((Value.slice pt X.length ct).ownBlock ≠ some q3) := Lib.hid (fun e => by have := htw.own_ge e; omega)
              clear hq3l
              have HTW := Lib.hid (htw.mono_base (base' := w.heap.size) HB4.out.size)
              replace HB4 := Lib.hid (HB4.out.trans ((hBv).mono HB4.out.size))
              replace HG4 := Lib.hid (HG4.out.below (hBv))
              replace HX4 := Lib.hid (HX4.out.below (hBv))
              replace HZB := Lib.hid (HZB.out.below (hBv))
              replace HT := Lib.hid (HT.out.below hBv)
              clear hBv htw HX4
              obtain ⟨V3, hV⟩ : ∃ x, x = wv := ⟨_, rfl⟩
              rw [← hV] at HB4 HG4 HZB HTW HT ⊢
              clear hV
              refine hK _ _ ⟨fun _ _ => HG4.out.cell, ?_⟩; clear hK K
              clear hS
              have hS := Lib.hid HG4.out.cell
              refine rp_only 4 (by kernel_rfl) rfl (fun K hK => ?_)
              have hS3 : SlR V3 (fun b => noM b ∨ (Value.slice pt X.length ct).ownBlock = some b) (.slice (some ⟨q3, 0, none⟩) 1 1) [(0 : UInt8)] := SlR.one (α := UInt8) (x := (0 : UInt8)) (cs := [.int .u8 0]) HZB.out rfl (fun h => h.elim (fun h => h) HNE.out)
              refine step_append_R (α := UInt8) (M := noM) (base := w.heap.size) (l := X) (m := [(0 : UInt8)]) rfl (by rfl) tyB (by rfl) HTW.out (by rfl) hS3 (by simp; omega) HB4.out.size ?_
              intro v6 wv ho6 hg6 hat6
              obtain ⟨XX, hXX⟩ : ∃ x, x = X ++ [(0 : UInt8)] := ⟨_, rfl⟩
              have hXXl : XX.length ≤ 60 := by rw [hXX]; simp; omega
              rw [← hXX] at ho6
              have HXX := Lib.hid hXX
              clear hXX
              obtain ⟨p6, c6, rfl⟩ := ho6.form
              have HAP := Lib.hid ho6
              replace HB4 := Lib.hid (HB4.out.grown hg6 HB4.out.size (fun b e => HTW.out.own_ge e))
              replace HG4 := Lib.hid (HG4.out.grown hg6 (fun e => HTW.out.ne_ HG4.out (by decide) e.symm))
              replace HT := Lib.hid (HT.out.grown hg6 (fun e => HTW.out.ne_ HT.out (by decide) e.symm))
              clear hS3 ho6 hg6 hat6 HTW HZB
              obtain ⟨V4, hV⟩ : ∃ x, x = wv := ⟨_, rfl⟩
              rw [← hV] at HB4 HG4 HAP HT ⊢
              clear hV
              refine hK _ _ ⟨fun _ _ => HG4.out.cell, ?_⟩; clear hK K
              clear hS
              have hS := Lib.hid HG4.out.cell
              refine rp_only 5 (by kernel_rfl) rfl (fun K hK => ?_)
              have hrd := rread_any ⟨z, d, sp, sl, an⟩ (.slice p6 XX.length c6) XX _ noM (HAP.out.sl (fun _ _ h => h)) (by omega)
              unfold gv at hrd
              simp only at hrd
              go_simp
              ((with_reducible refine hrd.mono ?_); rintro e wv ⟨hU, hBv⟩)
              rcases hU with ⟨hbad, -⟩ | ⟨-, -, rfl⟩ | ⟨-, v9, r9, hr9, -, -⟩
              case inl => exact absurd hbad (by rw [hokg.out]; simp)
              case inr.inr => exact absurd hr9 (by rw [HXX.out, HMORE.out]; simp)
              clear hrd
              replace HB4 := Lib.hid (HB4.out.trans ((hBv).mono HB4.out.size))
              replace HG4 := Lib.hid (HG4.out.below (hBv))
              replace HT := Lib.hid (HT.out.below hBv)
              clear hBv HAP
              obtain ⟨V5, hV⟩ : ∃ x, x = wv := ⟨_, rfl⟩
              rw [← hV] at HB4 HG4 HT ⊢
              clear hV
              unfold zeroR
              refine hK _ _ ⟨fun _ _ => HG4.out.cell, ?_⟩; clear hK K
              clear hS
              have hS := Lib.hid HG4.out.cell
              apply rp_pure 6 rfl (by kernel_rfl) (fun _ _ _ h => h) rfl
              · (intro W'; go_simp; try rfl)
              · (go_simp; try rfl)
              apply rp_pure 7 rfl (by kernel_rfl) (fun _ _ _ h => h) rfl
              · (intro W'; go_simp; try rfl)
              · (go_simp; try rfl)
              apply rp_pure 8 rfl (by kernel_rfl) (fun _ _ _ h => h) rfl
              · (intro W'; go_simp; try rfl)
              · (go_simp; try rfl)
              refine rp_only 10 (by kernel_rfl) rfl (fun K hK => ?_)
              obtain ⟨t1, t2, t3⟩ := HT.out.all
              go_simp
              have HX5 := Lib.hid (And.intro (below_st8 HB4.out (Nat.le_of_lt HTl.out) (.int .i64 0) (.int .i64 0) (.int .i64 0) (.int .i64 0) (.int .i64 0) (.int .i64 0) (.int .i64 0) (.slice none 0 0)) (far_st8 HG4.out (Nat.ne_of_lt HTl.out) (.int .i64 0) (.int .i64 0) (.int .i64 0) (.int .i64 0) (.int .i64 0) (.int .i64 0) (.int .i64 0) (.slice none 0 0)))
              refine hK _ _ ⟨fun _ _ => HX5.out.2.cell, ?_⟩; clear hK K t1 t2 t3
              apply rp_pure 11 rfl (by kernel_rfl) (fun _ _ _ h => h) rfl
              · (intro W'; go_simp; try rfl)
              · (go_simp; try rfl)
              refine rp_done (by kernel_rfl) ?_
              go_wp2_with fail
              go_meet
              exact ⟨rfl, Lib.hid HX5.out.1⟩
        case rest =>
          obtain ⟨rfl, HC⟩ := hcut
          have hwk := fun w' => wakes_any w'
          go_wp2_with (go_at_call 10; go_must (with_reducible refine (hwk _).mono ?_); rintro e w3 ⟨rfl, hB3⟩)
          go_ret
          exact ⟨rfl, HC.out.trans (hB3.mono HC.out.size)⟩
    · have hwk := Lib.hid (wakes_any w2)
      clear no2
      go_wp2_with (go_at_call 10; go_must (with_reducible refine hwk.out.mono ?_); rintro e w3 ⟨rfl, hB3⟩)
      go_ret
      exact ⟨rfl, HB2.out.trans (hB3.mono HB2.out.size)⟩
  · clear no1
    go_wp2_with fail
    clear g1 g2 g3 q1 q2 q3
    ((with_reducible refine hb2.out.mono ?_); rintro e w2 ⟨hU2, hB2⟩)
    have HB2 := Lib.hid (HB1.out.trans (hB2.mono HB1.out.size))
    have hwk := Lib.hid (wakes_any w2)
    clear hB2 hb2
    rcases hU2 with ⟨-, vy, rfl, hoy⟩ | ⟨-, rfl⟩
    · obtain ⟨py, cy, rfl⟩ := hoy.form
      clear hoy
      go_wp2_with (go_at_call 10; go_must (with_reducible refine hwk.out.mono ?_); rintro e w3 ⟨rfl, hB3⟩)
      go_ret
      exact ⟨rfl, HB2.out.trans (hB3.mono HB2.out.size)⟩
    · go_wp2_with (go_at_call 10; go_must (with_reducible refine hwk.out.mono ?_); rintro e w3 ⟨rfl, hB3⟩)
      go_ret
      exact ⟨rfl, HB2.out.trans (hB3.mono HB2.out.size)⟩
end Go.Proofs.Ytpknhpfbinplgaa
