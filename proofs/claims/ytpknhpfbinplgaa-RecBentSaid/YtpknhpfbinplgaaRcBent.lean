/-
The law RecBent answers true: a right image's record that is bent is none.
-/
import Derived.Test.YtpknhpfbinplgaaRfImage
import Derived.Deep.DeepCutAuto
namespace Go.Proofs.Ytpknhpfbinplgaa
open Go.RowKit
attribute [local go_sem ↓] Go.wp_at_zero Go.wp_at_succ

theorem bent_ok {g : Geo} {x : Img} (h : imgOk g x = true) : okR g ⟨1, 3, 0, 0, 3, x⟩ = true := by
  have hg := (imgOk_parts h).1
  simp [okR, hg, behOk, numsB, h, inB]
theorem img_len8 {g : Geo} {x : Img} (h : imgOk g x = true) : 8 ≤ x.bytes.length := by
  obtain ⟨h1, -, h3⟩ := imgOk_parts h
  obtain ⟨-, hd, -⟩ := okG_iff.1 h1
  rcases h3 with ⟨-, l, hl⟩ | ⟨-, -, h8⟩
  · have := readT_len hl; omega
  · omega
theorem bent_cut {g : Geo} {x : Img} (h : imgOk g x = true) : imgOk g ⟨x.zone, x.what, x.bytes.take (x.bytes.length - 1)⟩ = false := by
  have h8 := img_len8 h
  obtain ⟨h1, -, h3⟩ := imgOk_parts h
  cases hq : imgOk g ⟨x.zone, x.what, x.bytes.take (x.bytes.length - 1)⟩ with
  | false => rfl
  | true =>
    exfalso
    obtain ⟨-, -, h4⟩ := imgOk_parts hq
    simp only [List.length_take] at h4
    rcases h3 with ⟨e, l, hl⟩ | ⟨e, -, h5⟩
    · rcases h4 with ⟨-, l2, hl2⟩ | ⟨e2, -⟩
      · have a1 := readT_len hl
        have a2 := readT_len hl2
        rw [List.length_take] at a2
        omega
      · exact e2 e
    · rcases h4 with ⟨e2, -⟩ | ⟨-, -, h6⟩
      · exact e e2
      · omega

set_option maxRecDepth 100000 in
set_option maxHeartbeats 16000000 in
theorem bent_any (g : Geo) (x : Img) (v : Value) (how : Int) (w : World) (Mi : Ms) (h : SlR w Mi v x.bytes) :
    Calls Try.prog 5 #[gv g, .agg #[.int .i64 x.zone, .int .i64 x.what, v], .int .i64 how] w fun e w' => e = .returned (.bool true) ∧ Below w.heap.size w w' := by
  obtain ⟨zone, what, bytes⟩ := x
  obtain ⟨z, d, sp, sl, an⟩ := g
  simp only at h ⊢
  obtain ⟨a, c, rfl⟩ := h.form
  have hcap := h.cap
  have hb1 := (Below.refl w.heap.size w).alloc (Nat.le_refl _) (.cells #[.int .i64 z, .int .i64 d, .int .i64 sp, .int .i64 sl, .int .i64 an] 23)
  have hb2 := hb1.alloc (by simp) (.cells #[.int .i64 zone, .int .i64 what, .slice a bytes.length c] 26)
  have hT := Blk.new (w.alloc (.cells #[.int .i64 z, .int .i64 d, .int .i64 sp, .int .i64 sl, .int .i64 an] 23)) 26 #[.int .i64 zone, .int .i64 what, .slice a bytes.length c]
  simp only [World.size_alloc] at hT
  have HG := Lib.hid ((Blk.new w 23 #[.int .i64 z, .int .i64 d, .int .i64 sp, .int .i64 sl, .int .i64 an]).alloc (.cells #[.int .i64 zone, .int .i64 what, .slice a bytes.length c] 26))
  have HB := Lib.hid hb2
  have HT := Lib.hid hT
  have H := Lib.hid h.bare
  have hrg := Lib.hid (fun w' => rgeom_any ⟨z, d, sp, sl, an⟩ w')
  unfold gv at hrg ⊢
  simp only at hrg ⊢
  clear hb1 hb2 hT h
  by_cases h2 : 200 < bytes.length
  · have h2' : (200 : Int) < bytes.length := by omega
    go_enter Try.func5, Try.ntmps5
    go_wp2
    go_ret
    exact ⟨rfl, HB.out⟩
  have h2' : ¬ (200 : Int) < bytes.length := by omega
  have hbl : bytes.length ≤ 200 := by omega
  cases hok : okG ⟨z, d, sp, sl, an⟩ with
  | false =>
    rw [hok] at hrg
    clear hok
    go_enter Try.func5, Try.ntmps5
    go_wp2_with (go_at_call 19; go_must (with_reducible refine (hrg.out _).mono ?_); rintro e w1 ⟨rfl, hB1⟩)
    go_ret
    exact ⟨rfl, HB.out.trans (hB1.mono HB.out.size)⟩
  | true =>
    rw [hok] at hrg
    have HOK := Lib.hid hok
    obtain ⟨hz, hd, -⟩ := okG_iff.1 hok
    have hz1 : (1 : Int) ≤ z := hz.1
    have hd1 : (1 : Int) ≤ d := hd.1
    have hd2 : d ≤ 4 := hd.2
    clear hok hz hd
    go_enter Try.func5, Try.ntmps5
    go_wp2_with fail
    ((with_reducible refine (hrg.out _).mono ?_); rintro e w1 ⟨rfl, hB1⟩)
    have HB1 := Lib.hid (HB.out.trans (hB1.mono HB.out.size))
    have HG1 := Lib.hid (HG.out.below hB1)
    have HT1 := Lib.hid (HT.out.below hB1)
    have him := Lib.hid (rimage_any ⟨z, d, sp, sl, an⟩ ⟨zone, what, bytes⟩ (.slice a bytes.length c) w1 noM (H.out.mono (Keep.below HB1.out)) (by simp only; omega) HOK.out)
    unfold gv at him
    simp only at him
    obtain ⟨g1, g2, g3⟩ := HG1.out.all
    obtain ⟨t1, t2, t3⟩ := HT1.out.all
    clear hB1 hrg HB HG HT
    cases hio : imgOk ⟨z, d, sp, sl, an⟩ ⟨zone, what, bytes⟩ with
    | false =>
      rw [hio] at him
      clear hio
      go_wp2_with (go_at_call 20; go_must (with_reducible refine him.out.mono ?_); rintro e w2 ⟨rfl, hB2⟩)
      go_ret
      exact ⟨rfl, HB1.out.trans (hB2.mono HB1.out.size)⟩
    | true =>
      rw [hio] at him
      have HIO := Lib.hid hio
      have hl8 := img_len8 hio
      simp only at hl8
      clear hio
      go_wp2_with fail
      clear g1 g2 g3 t1 t2 t3
      ((with_reducible refine him.out.mono ?_); rintro e w2 ⟨rfl, hB2⟩)
      have HB2 := Lib.hid (HB1.out.trans (hB2.mono HB1.out.size))
      have HG2 := Lib.hid (HG1.out.below hB2)
      have HT2 := Lib.hid (HT1.out.below hB2)
      clear hB2 him HB1 HG1 HT1
      obtain ⟨t1, t2, t3⟩ := HT2.out.all
      go_upto_region 5 with fail
      clear t1 t2 t3
      have hbA := ((Below.refl w2.heap.size w2).alloc (Nat.le_refl _) (.cells #[.int .i64 1, .int .i64 3, .int .i64 0, .int .i64 0, .int .i64 3, .int .i64 zone, .int .i64 what, .slice a bytes.length c] 28)).alloc (by simp) (.cells #[.int .i64 1, .int .i64 3, .int .i64 0, .int .i64 0, .int .i64 3, .int .i64 zone, .int .i64 what, .slice a bytes.length c] 28)
      have h7 := (Blk.new w2 28 #[.int .i64 1, .int .i64 3, .int .i64 0, .int .i64 0, .int .i64 3, .int .i64 zone, .int .i64 what, .slice a bytes.length c]).alloc (.cells #[.int .i64 1, .int .i64 3, .int .i64 0, .int .i64 0, .int .i64 3, .int .i64 zone, .int .i64 what, .slice a bytes.length c] 28)
      have h8 := Blk.new (w2.alloc (.cells #[.int .i64 1, .int .i64 3, .int .i64 0, .int .i64 0, .int .i64 3, .int .i64 zone, .int .i64 what, .slice a bytes.length c] 28)) 28 #[.int .i64 1, .int .i64 3, .int .i64 0, .int .i64 0, .int .i64 3, .int .i64 zone, .int .i64 what, .slice a bytes.length c]
      simp only [World.size_alloc] at h8
      obtain ⟨W, hW⟩ : ∃ W, W = (w2.alloc (.cells #[.int .i64 1, .int .i64 3, .int .i64 0, .int .i64 0, .int .i64 3, .int .i64 zone, .int .i64 what, .slice a bytes.length c] 28)).alloc (.cells #[.int .i64 1, .int .i64 3, .int .i64 0, .int .i64 0, .int .i64 3, .int .i64 zone, .int .i64 what, .slice a bytes.length c] 28) := ⟨_, rfl⟩
      have HW := Lib.hid (show Below w.heap.size w W ∧ Blk W w.heap.size 23 #[.int .i64 z, .int .i64 d, .int .i64 sp, .int .i64 sl, .int .i64 an] ∧ Blk W (w.heap.size + 1) 26 #[.int .i64 zone, .int .i64 what, .slice a bytes.length c] ∧ Blk W w2.heap.size 28 #[.int .i64 1, .int .i64 3, .int .i64 0, .int .i64 0, .int .i64 3, .int .i64 zone, .int .i64 what, .slice a bytes.length c] ∧ Blk W (w2.heap.size + 1) 28 #[.int .i64 1, .int .i64 3, .int .i64 0, .int .i64 0, .int .i64 3, .int .i64 zone, .int .i64 what, .slice a bytes.length c] from by
        rw [hW]
        exact ⟨HB2.out.trans (hbA.mono HB2.out.size), HG2.out.below hbA, HT2.out.below hbA, h7, h8⟩)
      rw [← hW]
      have HWl := Lib.hid (show w.heap.size + 1 < w2.heap.size from HT2.out.lt)
      clear hbA h7 h8 hW HB2 HG2 HT2
      have hm0 : 0 ≤ IntKind.u64.wrap how := by rw [IntKind.wrap_u64]; omega
      have hm1 := Int.tmod_nonneg 8 hm0
      have hm2 := Int.tmod_lt_of_pos (IntKind.u64.wrap how) (show (0 : Int) < 8 by omega)
      obtain ⟨m, hm⟩ : ∃ m : Int, (IntKind.u64.wrap how).tmod 8 = m := ⟨_, rfl⟩
      rw [hm] at hm1 hm2
      obtain ⟨b7, hb7⟩ : ∃ b7, b7 = w2.heap.size := ⟨_, rfl⟩
      rw [← hb7] at HW HWl ⊢
      clear hb7 hm0
      have hcases : m = 0 ∨ m = 1 ∨ m = 2 ∨ m = 3 ∨ m = 4 ∨ m = 5 ∨ m = 6 ∨ m = 7 := by omega
      clear hm1 hm2
      rcases hcases with rfl | rfl | rfl | rfl | rfl | rfl | rfl | rfl
      · skip
        have hno : okR ⟨z, d, sp, sl, an⟩ ⟨2, 3, 0, 0, 3, ⟨zone, what, bytes⟩⟩ = false := by simp [okR, behOk, numsB]
        have HN := Lib.hid hno
        clear hno
        have H8 : Hid (Blk (W.setCell ⟨b7 + 1, 0, none⟩ (.int .i64 2)) (b7 + 1) 28 #[.int .i64 2, .int .i64 3, .int .i64 0, .int .i64 0, .int .i64 3, .int .i64 zone, .int .i64 what, .slice a bytes.length c]) := Lib.hid (HW.out.2.2.2.2.set_ 0 (.int .i64 2))
        have H5 := Lib.hid (show Below w.heap.size w (W.setCell ⟨b7 + 1, 0, none⟩ (.int .i64 2)) ∧ Blk (W.setCell ⟨b7 + 1, 0, none⟩ (.int .i64 2)) w.heap.size 23 #[.int .i64 z, .int .i64 d, .int .i64 sp, .int .i64 sl, .int .i64 an] ∧ Blk (W.setCell ⟨b7 + 1, 0, none⟩ (.int .i64 2)) b7 28 #[.int .i64 1, .int .i64 3, .int .i64 0, .int .i64 0, .int .i64 3, .int .i64 zone, .int .i64 what, .slice a bytes.length c] from
          ⟨HW.out.1.setCell (by have := HWl.out; simp; omega) _, HW.out.2.1.far (by have := HWl.out; simp; omega) _, HW.out.2.2.2.1.far (by simp) _⟩)
        obtain ⟨q1, q2, q3⟩ := HW.out.2.2.2.2.all
        obtain ⟨t1, t2, t3⟩ := HW.out.2.2.1.all
        obtain ⟨g1, g2, g3⟩ := HW.out.2.1.all
        go_upto_region 21 with fail
        clear q1 q2 q3 t1 t2 t3 g1 g2 g3
        obtain ⟨W5, hW5⟩ : ∃ W5, W5 = W.setCell ⟨b7 + 1, 0, none⟩ (.int .i64 2) := ⟨_, rfl⟩
        rw [← hW5] at H8 H5 ⊢
        clear hW5
        have hby := Lib.hid (rbytes_any ⟨z, d, sp, sl, an⟩ ⟨2, 3, 0, 0, 3, ⟨zone, what, bytes⟩⟩ (.slice a bytes.length c) W5 noM (H.out.mono (Keep.below H5.out.1)) (by simp; omega))
        unfold gv rv at hby
        simp only at hby
        obtain ⟨q1, q2, q3⟩ := H8.out.all
        obtain ⟨g1, g2, g3⟩ := H5.out.2.1.all
        go_wp2_with fail
        clear q1 q2 q3 g1 g2 g3
        ((with_reducible refine hby.out.mono ?_); rintro e w6 ⟨hU, hB6⟩)
        rcases hU with ⟨hbad, -⟩ | ⟨-, rfl⟩
        case inl => exact absurd hbad (by rw [HN.out]; simp)
        have HB6 := Lib.hid (H5.out.1.trans (hB6.mono H5.out.1.size))
        have HG6 := Lib.hid (H5.out.2.1.below hB6)
        have H76 := Lib.hid (H5.out.2.2.below hB6)
        have H86 := Lib.hid (H8.out.below hB6)
        have hc1 := Lib.hid (rcheck_any ⟨z, d, sp, sl, an⟩ ⟨1, 3, 0, 0, 3, ⟨zone, what, bytes⟩⟩ (.slice a bytes.length c) w6 noM (H.out.mono (Keep.below HB6.out)) (by simp; omega))
        rw [bent_ok HIO.out] at hc1
        unfold gv rv errV at hc1
        simp only [if_true] at hc1
        clear hB6 hby
        obtain ⟨q1, q2, q3⟩ := H76.out.all
        obtain ⟨g1, g2, g3⟩ := HG6.out.all
        go_wp2_with fail
        clear q1 q2 q3 g1 g2 g3
        ((with_reducible refine hc1.out.mono ?_); rintro e w7 ⟨rfl, hB7⟩)
        have HB7 := Lib.hid (HB6.out.trans (hB7.mono HB6.out.size))
        have HG7 := Lib.hid (HG6.out.below hB7)
        have H87 := Lib.hid (H86.out.below hB7)
        have hc2 := Lib.hid (rcheck_any ⟨z, d, sp, sl, an⟩ ⟨2, 3, 0, 0, 3, ⟨zone, what, bytes⟩⟩ (.slice a bytes.length c) w7 noM (H.out.mono (Keep.below HB7.out)) (by simp; omega))
        rw [HN.out] at hc2
        unfold gv rv errV at hc2
        simp only [Bool.false_eq_true, if_false] at hc2
        clear hB7 hc1
        obtain ⟨q1, q2, q3⟩ := H87.out.all
        obtain ⟨g1, g2, g3⟩ := HG7.out.all
        go_wp2_with fail
        clear q1 q2 q3 g1 g2 g3
        ((with_reducible refine hc2.out.mono ?_); rintro e w8 ⟨rfl, hB8⟩)
        have HB8 := Lib.hid (HB7.out.trans (hB8.mono HB7.out.size))
        have hwk := Lib.hid (wakes_any w8)
        clear hB8 hc2
        go_wp2_with (go_at_call 10; go_must (with_reducible refine hwk.out.mono ?_); rintro e w9 ⟨rfl, hB9⟩)
        go_ret
        exact ⟨rfl, HB8.out.trans (hB9.mono HB8.out.size)⟩
      · skip
        have hno : okR ⟨z, d, sp, sl, an⟩ ⟨1, 3, 0, 2, 3, ⟨zone, what, bytes⟩⟩ = false := by simp [okR, behOk, numsB, inB]
        have HN := Lib.hid hno
        clear hno
        have H8 : Hid (Blk (W.setCell ⟨b7 + 1, 3, none⟩ (.int .i64 2)) (b7 + 1) 28 #[.int .i64 1, .int .i64 3, .int .i64 0, .int .i64 2, .int .i64 3, .int .i64 zone, .int .i64 what, .slice a bytes.length c]) := Lib.hid (HW.out.2.2.2.2.set_ 3 (.int .i64 2))
        have H5 := Lib.hid (show Below w.heap.size w (W.setCell ⟨b7 + 1, 3, none⟩ (.int .i64 2)) ∧ Blk (W.setCell ⟨b7 + 1, 3, none⟩ (.int .i64 2)) w.heap.size 23 #[.int .i64 z, .int .i64 d, .int .i64 sp, .int .i64 sl, .int .i64 an] ∧ Blk (W.setCell ⟨b7 + 1, 3, none⟩ (.int .i64 2)) b7 28 #[.int .i64 1, .int .i64 3, .int .i64 0, .int .i64 0, .int .i64 3, .int .i64 zone, .int .i64 what, .slice a bytes.length c] from
          ⟨HW.out.1.setCell (by have := HWl.out; simp; omega) _, HW.out.2.1.far (by have := HWl.out; simp; omega) _, HW.out.2.2.2.1.far (by simp) _⟩)
        obtain ⟨q1, q2, q3⟩ := HW.out.2.2.2.2.all
        obtain ⟨t1, t2, t3⟩ := HW.out.2.2.1.all
        obtain ⟨g1, g2, g3⟩ := HW.out.2.1.all
        go_upto_region 21 with fail
        clear q1 q2 q3 t1 t2 t3 g1 g2 g3
        obtain ⟨W5, hW5⟩ : ∃ W5, W5 = W.setCell ⟨b7 + 1, 3, none⟩ (.int .i64 2) := ⟨_, rfl⟩
        rw [← hW5] at H8 H5 ⊢
        clear hW5
        have hby := Lib.hid (rbytes_any ⟨z, d, sp, sl, an⟩ ⟨1, 3, 0, 2, 3, ⟨zone, what, bytes⟩⟩ (.slice a bytes.length c) W5 noM (H.out.mono (Keep.below H5.out.1)) (by simp; omega))
        unfold gv rv at hby
        simp only at hby
        obtain ⟨q1, q2, q3⟩ := H8.out.all
        obtain ⟨g1, g2, g3⟩ := H5.out.2.1.all
        go_wp2_with fail
        clear q1 q2 q3 g1 g2 g3
        ((with_reducible refine hby.out.mono ?_); rintro e w6 ⟨hU, hB6⟩)
        rcases hU with ⟨hbad, -⟩ | ⟨-, rfl⟩
        case inl => exact absurd hbad (by rw [HN.out]; simp)
        have HB6 := Lib.hid (H5.out.1.trans (hB6.mono H5.out.1.size))
        have HG6 := Lib.hid (H5.out.2.1.below hB6)
        have H76 := Lib.hid (H5.out.2.2.below hB6)
        have H86 := Lib.hid (H8.out.below hB6)
        have hc1 := Lib.hid (rcheck_any ⟨z, d, sp, sl, an⟩ ⟨1, 3, 0, 0, 3, ⟨zone, what, bytes⟩⟩ (.slice a bytes.length c) w6 noM (H.out.mono (Keep.below HB6.out)) (by simp; omega))
        rw [bent_ok HIO.out] at hc1
        unfold gv rv errV at hc1
        simp only [if_true] at hc1
        clear hB6 hby
        obtain ⟨q1, q2, q3⟩ := H76.out.all
        obtain ⟨g1, g2, g3⟩ := HG6.out.all
        go_wp2_with fail
        clear q1 q2 q3 g1 g2 g3
        ((with_reducible refine hc1.out.mono ?_); rintro e w7 ⟨rfl, hB7⟩)
        have HB7 := Lib.hid (HB6.out.trans (hB7.mono HB6.out.size))
        have HG7 := Lib.hid (HG6.out.below hB7)
        have H87 := Lib.hid (H86.out.below hB7)
        have hc2 := Lib.hid (rcheck_any ⟨z, d, sp, sl, an⟩ ⟨1, 3, 0, 2, 3, ⟨zone, what, bytes⟩⟩ (.slice a bytes.length c) w7 noM (H.out.mono (Keep.below HB7.out)) (by simp; omega))
        rw [HN.out] at hc2
        unfold gv rv errV at hc2
        simp only [Bool.false_eq_true, if_false] at hc2
        clear hB7 hc1
        obtain ⟨q1, q2, q3⟩ := H87.out.all
        obtain ⟨g1, g2, g3⟩ := HG7.out.all
        go_wp2_with fail
        clear q1 q2 q3 g1 g2 g3
        ((with_reducible refine hc2.out.mono ?_); rintro e w8 ⟨rfl, hB8⟩)
        have HB8 := Lib.hid (HB7.out.trans (hB8.mono HB7.out.size))
        have hwk := Lib.hid (wakes_any w8)
        clear hB8 hc2
        go_wp2_with (go_at_call 10; go_must (with_reducible refine hwk.out.mono ?_); rintro e w9 ⟨rfl, hB9⟩)
        go_ret
        exact ⟨rfl, HB8.out.trans (hB9.mono HB8.out.size)⟩
      · skip
        have hno : okR ⟨z, d, sp, sl, an⟩ ⟨1, 3, 0, 0, 1, ⟨zone, what, bytes⟩⟩ = false := by simp [okR, behOk, numsB, inB]
        have HN := Lib.hid hno
        clear hno
        have H8 : Hid (Blk (W.setCell ⟨b7 + 1, 4, none⟩ (.int .i64 1)) (b7 + 1) 28 #[.int .i64 1, .int .i64 3, .int .i64 0, .int .i64 0, .int .i64 1, .int .i64 zone, .int .i64 what, .slice a bytes.length c]) := Lib.hid (HW.out.2.2.2.2.set_ 4 (.int .i64 1))
        have H5 := Lib.hid (show Below w.heap.size w (W.setCell ⟨b7 + 1, 4, none⟩ (.int .i64 1)) ∧ Blk (W.setCell ⟨b7 + 1, 4, none⟩ (.int .i64 1)) w.heap.size 23 #[.int .i64 z, .int .i64 d, .int .i64 sp, .int .i64 sl, .int .i64 an] ∧ Blk (W.setCell ⟨b7 + 1, 4, none⟩ (.int .i64 1)) b7 28 #[.int .i64 1, .int .i64 3, .int .i64 0, .int .i64 0, .int .i64 3, .int .i64 zone, .int .i64 what, .slice a bytes.length c] from
          ⟨HW.out.1.setCell (by have := HWl.out; simp; omega) _, HW.out.2.1.far (by have := HWl.out; simp; omega) _, HW.out.2.2.2.1.far (by simp) _⟩)
        obtain ⟨q1, q2, q3⟩ := HW.out.2.2.2.2.all
        obtain ⟨t1, t2, t3⟩ := HW.out.2.2.1.all
        obtain ⟨g1, g2, g3⟩ := HW.out.2.1.all
        go_upto_region 21 with fail
        clear q1 q2 q3 t1 t2 t3 g1 g2 g3
        obtain ⟨W5, hW5⟩ : ∃ W5, W5 = W.setCell ⟨b7 + 1, 4, none⟩ (.int .i64 1) := ⟨_, rfl⟩
        rw [← hW5] at H8 H5 ⊢
        clear hW5
        have hby := Lib.hid (rbytes_any ⟨z, d, sp, sl, an⟩ ⟨1, 3, 0, 0, 1, ⟨zone, what, bytes⟩⟩ (.slice a bytes.length c) W5 noM (H.out.mono (Keep.below H5.out.1)) (by simp; omega))
        unfold gv rv at hby
        simp only at hby
        obtain ⟨q1, q2, q3⟩ := H8.out.all
        obtain ⟨g1, g2, g3⟩ := H5.out.2.1.all
        go_wp2_with fail
        clear q1 q2 q3 g1 g2 g3
        ((with_reducible refine hby.out.mono ?_); rintro e w6 ⟨hU, hB6⟩)
        rcases hU with ⟨hbad, -⟩ | ⟨-, rfl⟩
        case inl => exact absurd hbad (by rw [HN.out]; simp)
        have HB6 := Lib.hid (H5.out.1.trans (hB6.mono H5.out.1.size))
        have HG6 := Lib.hid (H5.out.2.1.below hB6)
        have H76 := Lib.hid (H5.out.2.2.below hB6)
        have H86 := Lib.hid (H8.out.below hB6)
        have hc1 := Lib.hid (rcheck_any ⟨z, d, sp, sl, an⟩ ⟨1, 3, 0, 0, 3, ⟨zone, what, bytes⟩⟩ (.slice a bytes.length c) w6 noM (H.out.mono (Keep.below HB6.out)) (by simp; omega))
        rw [bent_ok HIO.out] at hc1
        unfold gv rv errV at hc1
        simp only [if_true] at hc1
        clear hB6 hby
        obtain ⟨q1, q2, q3⟩ := H76.out.all
        obtain ⟨g1, g2, g3⟩ := HG6.out.all
        go_wp2_with fail
        clear q1 q2 q3 g1 g2 g3
        ((with_reducible refine hc1.out.mono ?_); rintro e w7 ⟨rfl, hB7⟩)
        have HB7 := Lib.hid (HB6.out.trans (hB7.mono HB6.out.size))
        have HG7 := Lib.hid (HG6.out.below hB7)
        have H87 := Lib.hid (H86.out.below hB7)
        have hc2 := Lib.hid (rcheck_any ⟨z, d, sp, sl, an⟩ ⟨1, 3, 0, 0, 1, ⟨zone, what, bytes⟩⟩ (.slice a bytes.length c) w7 noM (H.out.mono (Keep.below HB7.out)) (by simp; omega))
        rw [HN.out] at hc2
        unfold gv rv errV at hc2
        simp only [Bool.false_eq_true, if_false] at hc2
        clear hB7 hc1
        obtain ⟨q1, q2, q3⟩ := H87.out.all
        obtain ⟨g1, g2, g3⟩ := HG7.out.all
        go_wp2_with fail
        clear q1 q2 q3 g1 g2 g3
        ((with_reducible refine hc2.out.mono ?_); rintro e w8 ⟨rfl, hB8⟩)
        have HB8 := Lib.hid (HB7.out.trans (hB8.mono HB7.out.size))
        have hwk := Lib.hid (wakes_any w8)
        clear hB8 hc2
        go_wp2_with (go_at_call 10; go_must (with_reducible refine hwk.out.mono ?_); rintro e w9 ⟨rfl, hB9⟩)
        go_ret
        exact ⟨rfl, HB8.out.trans (hB9.mono HB8.out.size)⟩
      · skip
        have hno : okR ⟨z, d, sp, sl, an⟩ ⟨1, 3, 0, 0, 3, ⟨z, what, bytes⟩⟩ = false := by simp [okR, behOk, imgOk, inB]; omega
        have HN := Lib.hid hno
        clear hno
        have H8 : Hid (Blk (W.setCell ⟨b7 + 1, 5, none⟩ (.int .i64 z)) (b7 + 1) 28 #[.int .i64 1, .int .i64 3, .int .i64 0, .int .i64 0, .int .i64 3, .int .i64 z, .int .i64 what, .slice a bytes.length c]) := Lib.hid (HW.out.2.2.2.2.set_ 5 (.int .i64 z))
        have H5 := Lib.hid (show Below w.heap.size w (W.setCell ⟨b7 + 1, 5, none⟩ (.int .i64 z)) ∧ Blk (W.setCell ⟨b7 + 1, 5, none⟩ (.int .i64 z)) w.heap.size 23 #[.int .i64 z, .int .i64 d, .int .i64 sp, .int .i64 sl, .int .i64 an] ∧ Blk (W.setCell ⟨b7 + 1, 5, none⟩ (.int .i64 z)) b7 28 #[.int .i64 1, .int .i64 3, .int .i64 0, .int .i64 0, .int .i64 3, .int .i64 zone, .int .i64 what, .slice a bytes.length c] from
          ⟨HW.out.1.setCell (by have := HWl.out; simp; omega) _, HW.out.2.1.far (by have := HWl.out; simp; omega) _, HW.out.2.2.2.1.far (by simp) _⟩)
        obtain ⟨q1, q2, q3⟩ := HW.out.2.2.2.2.all
        obtain ⟨t1, t2, t3⟩ := HW.out.2.2.1.all
        obtain ⟨g1, g2, g3⟩ := HW.out.2.1.all
        go_upto_region 21 with fail
        clear q1 q2 q3 t1 t2 t3 g1 g2 g3
        obtain ⟨W5, hW5⟩ : ∃ W5, W5 = W.setCell ⟨b7 + 1, 5, none⟩ (.int .i64 z) := ⟨_, rfl⟩
        rw [← hW5] at H8 H5 ⊢
        clear hW5
        have hby := Lib.hid (rbytes_any ⟨z, d, sp, sl, an⟩ ⟨1, 3, 0, 0, 3, ⟨z, what, bytes⟩⟩ (.slice a bytes.length c) W5 noM (H.out.mono (Keep.below H5.out.1)) (by simp; omega))
        unfold gv rv at hby
        simp only at hby
        obtain ⟨q1, q2, q3⟩ := H8.out.all
        obtain ⟨g1, g2, g3⟩ := H5.out.2.1.all
        go_wp2_with fail
        clear q1 q2 q3 g1 g2 g3
        ((with_reducible refine hby.out.mono ?_); rintro e w6 ⟨hU, hB6⟩)
        rcases hU with ⟨hbad, -⟩ | ⟨-, rfl⟩
        case inl => exact absurd hbad (by rw [HN.out]; simp)
        have HB6 := Lib.hid (H5.out.1.trans (hB6.mono H5.out.1.size))
        have HG6 := Lib.hid (H5.out.2.1.below hB6)
        have H76 := Lib.hid (H5.out.2.2.below hB6)
        have H86 := Lib.hid (H8.out.below hB6)
        have hc1 := Lib.hid (rcheck_any ⟨z, d, sp, sl, an⟩ ⟨1, 3, 0, 0, 3, ⟨zone, what, bytes⟩⟩ (.slice a bytes.length c) w6 noM (H.out.mono (Keep.below HB6.out)) (by simp; omega))
        rw [bent_ok HIO.out] at hc1
        unfold gv rv errV at hc1
        simp only [if_true] at hc1
        clear hB6 hby
        obtain ⟨q1, q2, q3⟩ := H76.out.all
        obtain ⟨g1, g2, g3⟩ := HG6.out.all
        go_wp2_with fail
        clear q1 q2 q3 g1 g2 g3
        ((with_reducible refine hc1.out.mono ?_); rintro e w7 ⟨rfl, hB7⟩)
        have HB7 := Lib.hid (HB6.out.trans (hB7.mono HB6.out.size))
        have HG7 := Lib.hid (HG6.out.below hB7)
        have H87 := Lib.hid (H86.out.below hB7)
        have hc2 := Lib.hid (rcheck_any ⟨z, d, sp, sl, an⟩ ⟨1, 3, 0, 0, 3, ⟨z, what, bytes⟩⟩ (.slice a bytes.length c) w7 noM (H.out.mono (Keep.below HB7.out)) (by simp; omega))
        rw [HN.out] at hc2
        unfold gv rv errV at hc2
        simp only [Bool.false_eq_true, if_false] at hc2
        clear hB7 hc1
        obtain ⟨q1, q2, q3⟩ := H87.out.all
        obtain ⟨g1, g2, g3⟩ := HG7.out.all
        go_wp2_with fail
        clear q1 q2 q3 g1 g2 g3
        ((with_reducible refine hc2.out.mono ?_); rintro e w8 ⟨rfl, hB8⟩)
        have HB8 := Lib.hid (HB7.out.trans (hB8.mono HB7.out.size))
        have hwk := Lib.hid (wakes_any w8)
        clear hB8 hc2
        go_wp2_with (go_at_call 10; go_must (with_reducible refine hwk.out.mono ?_); rintro e w9 ⟨rfl, hB9⟩)
        go_ret
        exact ⟨rfl, HB8.out.trans (hB9.mono HB8.out.size)⟩
      · skip
        have hno : okR ⟨z, d, sp, sl, an⟩ ⟨1, 3, 0, 0, 3, ⟨zone, d, bytes⟩⟩ = false := by
            have h255 : ¬ d = 255 := by omega
            simp [okR, behOk, imgOk, inB, h255]; omega
        have HN := Lib.hid hno
        clear hno
        have H8 : Hid (Blk (W.setCell ⟨b7 + 1, 6, none⟩ (.int .i64 d)) (b7 + 1) 28 #[.int .i64 1, .int .i64 3, .int .i64 0, .int .i64 0, .int .i64 3, .int .i64 zone, .int .i64 d, .slice a bytes.length c]) := Lib.hid (HW.out.2.2.2.2.set_ 6 (.int .i64 d))
        have H5 := Lib.hid (show Below w.heap.size w (W.setCell ⟨b7 + 1, 6, none⟩ (.int .i64 d)) ∧ Blk (W.setCell ⟨b7 + 1, 6, none⟩ (.int .i64 d)) w.heap.size 23 #[.int .i64 z, .int .i64 d, .int .i64 sp, .int .i64 sl, .int .i64 an] ∧ Blk (W.setCell ⟨b7 + 1, 6, none⟩ (.int .i64 d)) b7 28 #[.int .i64 1, .int .i64 3, .int .i64 0, .int .i64 0, .int .i64 3, .int .i64 zone, .int .i64 what, .slice a bytes.length c] from
          ⟨HW.out.1.setCell (by have := HWl.out; simp; omega) _, HW.out.2.1.far (by have := HWl.out; simp; omega) _, HW.out.2.2.2.1.far (by simp) _⟩)
        obtain ⟨q1, q2, q3⟩ := HW.out.2.2.2.2.all
        obtain ⟨t1, t2, t3⟩ := HW.out.2.2.1.all
        obtain ⟨g1, g2, g3⟩ := HW.out.2.1.all
        go_upto_region 21 with fail
        clear q1 q2 q3 t1 t2 t3 g1 g2 g3
        obtain ⟨W5, hW5⟩ : ∃ W5, W5 = W.setCell ⟨b7 + 1, 6, none⟩ (.int .i64 d) := ⟨_, rfl⟩
        rw [← hW5] at H8 H5 ⊢
        clear hW5
        have hby := Lib.hid (rbytes_any ⟨z, d, sp, sl, an⟩ ⟨1, 3, 0, 0, 3, ⟨zone, d, bytes⟩⟩ (.slice a bytes.length c) W5 noM (H.out.mono (Keep.below H5.out.1)) (by simp; omega))
        unfold gv rv at hby
        simp only at hby
        obtain ⟨q1, q2, q3⟩ := H8.out.all
        obtain ⟨g1, g2, g3⟩ := H5.out.2.1.all
        go_wp2_with fail
        clear q1 q2 q3 g1 g2 g3
        ((with_reducible refine hby.out.mono ?_); rintro e w6 ⟨hU, hB6⟩)
        rcases hU with ⟨hbad, -⟩ | ⟨-, rfl⟩
        case inl => exact absurd hbad (by rw [HN.out]; simp)
        have HB6 := Lib.hid (H5.out.1.trans (hB6.mono H5.out.1.size))
        have HG6 := Lib.hid (H5.out.2.1.below hB6)
        have H76 := Lib.hid (H5.out.2.2.below hB6)
        have H86 := Lib.hid (H8.out.below hB6)
        have hc1 := Lib.hid (rcheck_any ⟨z, d, sp, sl, an⟩ ⟨1, 3, 0, 0, 3, ⟨zone, what, bytes⟩⟩ (.slice a bytes.length c) w6 noM (H.out.mono (Keep.below HB6.out)) (by simp; omega))
        rw [bent_ok HIO.out] at hc1
        unfold gv rv errV at hc1
        simp only [if_true] at hc1
        clear hB6 hby
        obtain ⟨q1, q2, q3⟩ := H76.out.all
        obtain ⟨g1, g2, g3⟩ := HG6.out.all
        go_wp2_with fail
        clear q1 q2 q3 g1 g2 g3
        ((with_reducible refine hc1.out.mono ?_); rintro e w7 ⟨rfl, hB7⟩)
        have HB7 := Lib.hid (HB6.out.trans (hB7.mono HB6.out.size))
        have HG7 := Lib.hid (HG6.out.below hB7)
        have H87 := Lib.hid (H86.out.below hB7)
        have hc2 := Lib.hid (rcheck_any ⟨z, d, sp, sl, an⟩ ⟨1, 3, 0, 0, 3, ⟨zone, d, bytes⟩⟩ (.slice a bytes.length c) w7 noM (H.out.mono (Keep.below HB7.out)) (by simp; omega))
        rw [HN.out] at hc2
        unfold gv rv errV at hc2
        simp only [Bool.false_eq_true, if_false] at hc2
        clear hB7 hc1
        obtain ⟨q1, q2, q3⟩ := H87.out.all
        obtain ⟨g1, g2, g3⟩ := HG7.out.all
        go_wp2_with fail
        clear q1 q2 q3 g1 g2 g3
        ((with_reducible refine hc2.out.mono ?_); rintro e w8 ⟨rfl, hB8⟩)
        have HB8 := Lib.hid (HB7.out.trans (hB8.mono HB7.out.size))
        have hwk := Lib.hid (wakes_any w8)
        clear hB8 hc2
        go_wp2_with (go_at_call 10; go_must (with_reducible refine hwk.out.mono ?_); rintro e w9 ⟨rfl, hB9⟩)
        go_ret
        exact ⟨rfl, HB8.out.trans (hB9.mono HB8.out.size)⟩
      · skip
        have hno : okR ⟨z, d, sp, sl, an⟩ ⟨1, 3, 0, 0, 3, ⟨zone, what, bytes.take (bytes.length - 1)⟩⟩ = false := by
            have := bent_cut HIO.out
            simp only at this
            simp [okR, behOk, this]
        have hw1 : IntKind.i64.wrap ((bytes.length : Int) - 1) = ((bytes.length - 1 : Nat) : Int) := by rw [IntKind.wrap_i64]; omega
        have hsl0 : (0 : Int) ≤ ((bytes.length - 1 : Nat) : Int) := by omega
        have hsl1 : ((bytes.length - 1 : Nat) : Int) ≤ c := by omega
        have HN := Lib.hid hno
        clear hno
        have H8 : Hid (Blk (W.setCell ⟨b7 + 1, 7, none⟩ (.slice a (bytes.length - 1) c)) (b7 + 1) 28 #[.int .i64 1, .int .i64 3, .int .i64 0, .int .i64 0, .int .i64 3, .int .i64 zone, .int .i64 what, .slice a (bytes.length - 1) c]) := Lib.hid (HW.out.2.2.2.2.set_ 7 (.slice a (bytes.length - 1) c))
        have H5 := Lib.hid (show Below w.heap.size w (W.setCell ⟨b7 + 1, 7, none⟩ (.slice a (bytes.length - 1) c)) ∧ Blk (W.setCell ⟨b7 + 1, 7, none⟩ (.slice a (bytes.length - 1) c)) w.heap.size 23 #[.int .i64 z, .int .i64 d, .int .i64 sp, .int .i64 sl, .int .i64 an] ∧ Blk (W.setCell ⟨b7 + 1, 7, none⟩ (.slice a (bytes.length - 1) c)) b7 28 #[.int .i64 1, .int .i64 3, .int .i64 0, .int .i64 0, .int .i64 3, .int .i64 zone, .int .i64 what, .slice a bytes.length c] from
          ⟨HW.out.1.setCell (by have := HWl.out; simp; omega) _, HW.out.2.1.far (by have := HWl.out; simp; omega) _, HW.out.2.2.2.1.far (by simp) _⟩)
        obtain ⟨q1, q2, q3⟩ := HW.out.2.2.2.2.all
        obtain ⟨t1, t2, t3⟩ := HW.out.2.2.1.all
        obtain ⟨g1, g2, g3⟩ := HW.out.2.1.all
        go_upto_region 21 with fail
        clear q1 q2 q3 t1 t2 t3 g1 g2 g3
        obtain ⟨W5, hW5⟩ : ∃ W5, W5 = W.setCell ⟨b7 + 1, 7, none⟩ (.slice a (bytes.length - 1) c) := ⟨_, rfl⟩
        rw [← hW5] at H8 H5 ⊢
        clear hW5
        have hby := Lib.hid (rbytes_any ⟨z, d, sp, sl, an⟩ ⟨1, 3, 0, 0, 3, ⟨zone, what, bytes.take (bytes.length - 1)⟩⟩ (.slice a (bytes.length - 1) c) W5 noM ((H.out.mono (Keep.below H5.out.1)).take_ (by omega)) (by simp [List.length_take]; omega))
        unfold gv rv at hby
        simp only at hby
        obtain ⟨q1, q2, q3⟩ := H8.out.all
        obtain ⟨g1, g2, g3⟩ := H5.out.2.1.all
        go_wp2_with fail
        clear q1 q2 q3 g1 g2 g3
        ((with_reducible refine hby.out.mono ?_); rintro e w6 ⟨hU, hB6⟩)
        rcases hU with ⟨hbad, -⟩ | ⟨-, rfl⟩
        case inl => exact absurd hbad (by rw [HN.out]; simp)
        have HB6 := Lib.hid (H5.out.1.trans (hB6.mono H5.out.1.size))
        have HG6 := Lib.hid (H5.out.2.1.below hB6)
        have H76 := Lib.hid (H5.out.2.2.below hB6)
        have H86 := Lib.hid (H8.out.below hB6)
        have hc1 := Lib.hid (rcheck_any ⟨z, d, sp, sl, an⟩ ⟨1, 3, 0, 0, 3, ⟨zone, what, bytes⟩⟩ (.slice a bytes.length c) w6 noM (H.out.mono (Keep.below HB6.out)) (by simp; omega))
        rw [bent_ok HIO.out] at hc1
        unfold gv rv errV at hc1
        simp only [if_true] at hc1
        clear hB6 hby
        obtain ⟨q1, q2, q3⟩ := H76.out.all
        obtain ⟨g1, g2, g3⟩ := HG6.out.all
        go_wp2_with fail
        clear q1 q2 q3 g1 g2 g3
        ((with_reducible refine hc1.out.mono ?_); rintro e w7 ⟨rfl, hB7⟩)
        have HB7 := Lib.hid (HB6.out.trans (hB7.mono HB6.out.size))
        have HG7 := Lib.hid (HG6.out.below hB7)
        have H87 := Lib.hid (H86.out.below hB7)
        have hc2 := Lib.hid (rcheck_any ⟨z, d, sp, sl, an⟩ ⟨1, 3, 0, 0, 3, ⟨zone, what, bytes.take (bytes.length - 1)⟩⟩ (.slice a (bytes.length - 1) c) w7 noM ((H.out.mono (Keep.below HB7.out)).take_ (by omega)) (by simp [List.length_take]; omega))
        rw [HN.out] at hc2
        unfold gv rv errV at hc2
        simp only [Bool.false_eq_true, if_false] at hc2
        clear hB7 hc1
        obtain ⟨q1, q2, q3⟩ := H87.out.all
        obtain ⟨g1, g2, g3⟩ := HG7.out.all
        go_wp2_with fail
        clear q1 q2 q3 g1 g2 g3
        ((with_reducible refine hc2.out.mono ?_); rintro e w8 ⟨rfl, hB8⟩)
        have HB8 := Lib.hid (HB7.out.trans (hB8.mono HB7.out.size))
        have hwk := Lib.hid (wakes_any w8)
        clear hB8 hc2
        go_wp2_with (go_at_call 10; go_must (with_reducible refine hwk.out.mono ?_); rintro e w9 ⟨rfl, hB9⟩)
        go_ret
        exact ⟨rfl, HB8.out.trans (hB9.mono HB8.out.size)⟩
      · skip
        have hno : okR ⟨z, d, sp, sl, an⟩ ⟨3, 3, 0, 0, 3, ⟨zone, what, bytes⟩⟩ = false := by simp [okR, behOk]
        have HN := Lib.hid hno
        clear hno
        have H8 : Hid (Blk (W.setCell ⟨b7 + 1, 0, none⟩ (.int .i64 3)) (b7 + 1) 28 #[.int .i64 3, .int .i64 3, .int .i64 0, .int .i64 0, .int .i64 3, .int .i64 zone, .int .i64 what, .slice a bytes.length c]) := Lib.hid (HW.out.2.2.2.2.set_ 0 (.int .i64 3))
        have H5 := Lib.hid (show Below w.heap.size w (W.setCell ⟨b7 + 1, 0, none⟩ (.int .i64 3)) ∧ Blk (W.setCell ⟨b7 + 1, 0, none⟩ (.int .i64 3)) w.heap.size 23 #[.int .i64 z, .int .i64 d, .int .i64 sp, .int .i64 sl, .int .i64 an] ∧ Blk (W.setCell ⟨b7 + 1, 0, none⟩ (.int .i64 3)) b7 28 #[.int .i64 1, .int .i64 3, .int .i64 0, .int .i64 0, .int .i64 3, .int .i64 zone, .int .i64 what, .slice a bytes.length c] from
          ⟨HW.out.1.setCell (by have := HWl.out; simp; omega) _, HW.out.2.1.far (by have := HWl.out; simp; omega) _, HW.out.2.2.2.1.far (by simp) _⟩)
        obtain ⟨q1, q2, q3⟩ := HW.out.2.2.2.2.all
        obtain ⟨t1, t2, t3⟩ := HW.out.2.2.1.all
        obtain ⟨g1, g2, g3⟩ := HW.out.2.1.all
        go_upto_region 21 with fail
        clear q1 q2 q3 t1 t2 t3 g1 g2 g3
        obtain ⟨W5, hW5⟩ : ∃ W5, W5 = W.setCell ⟨b7 + 1, 0, none⟩ (.int .i64 3) := ⟨_, rfl⟩
        rw [← hW5] at H8 H5 ⊢
        clear hW5
        have hby := Lib.hid (rbytes_any ⟨z, d, sp, sl, an⟩ ⟨3, 3, 0, 0, 3, ⟨zone, what, bytes⟩⟩ (.slice a bytes.length c) W5 noM (H.out.mono (Keep.below H5.out.1)) (by simp; omega))
        unfold gv rv at hby
        simp only at hby
        obtain ⟨q1, q2, q3⟩ := H8.out.all
        obtain ⟨g1, g2, g3⟩ := H5.out.2.1.all
        go_wp2_with fail
        clear q1 q2 q3 g1 g2 g3
        ((with_reducible refine hby.out.mono ?_); rintro e w6 ⟨hU, hB6⟩)
        rcases hU with ⟨hbad, -⟩ | ⟨-, rfl⟩
        case inl => exact absurd hbad (by rw [HN.out]; simp)
        have HB6 := Lib.hid (H5.out.1.trans (hB6.mono H5.out.1.size))
        have HG6 := Lib.hid (H5.out.2.1.below hB6)
        have H76 := Lib.hid (H5.out.2.2.below hB6)
        have H86 := Lib.hid (H8.out.below hB6)
        have hc1 := Lib.hid (rcheck_any ⟨z, d, sp, sl, an⟩ ⟨1, 3, 0, 0, 3, ⟨zone, what, bytes⟩⟩ (.slice a bytes.length c) w6 noM (H.out.mono (Keep.below HB6.out)) (by simp; omega))
        rw [bent_ok HIO.out] at hc1
        unfold gv rv errV at hc1
        simp only [if_true] at hc1
        clear hB6 hby
        obtain ⟨q1, q2, q3⟩ := H76.out.all
        obtain ⟨g1, g2, g3⟩ := HG6.out.all
        go_wp2_with fail
        clear q1 q2 q3 g1 g2 g3
        ((with_reducible refine hc1.out.mono ?_); rintro e w7 ⟨rfl, hB7⟩)
        have HB7 := Lib.hid (HB6.out.trans (hB7.mono HB6.out.size))
        have HG7 := Lib.hid (HG6.out.below hB7)
        have H87 := Lib.hid (H86.out.below hB7)
        have hc2 := Lib.hid (rcheck_any ⟨z, d, sp, sl, an⟩ ⟨3, 3, 0, 0, 3, ⟨zone, what, bytes⟩⟩ (.slice a bytes.length c) w7 noM (H.out.mono (Keep.below HB7.out)) (by simp; omega))
        rw [HN.out] at hc2
        unfold gv rv errV at hc2
        simp only [Bool.false_eq_true, if_false] at hc2
        clear hB7 hc1
        obtain ⟨q1, q2, q3⟩ := H87.out.all
        obtain ⟨g1, g2, g3⟩ := HG7.out.all
        go_wp2_with fail
        clear q1 q2 q3 g1 g2 g3
        ((with_reducible refine hc2.out.mono ?_); rintro e w8 ⟨rfl, hB8⟩)
        have HB8 := Lib.hid (HB7.out.trans (hB8.mono HB7.out.size))
        have hwk := Lib.hid (wakes_any w8)
        clear hB8 hc2
        go_wp2_with (go_at_call 10; go_must (with_reducible refine hwk.out.mono ?_); rintro e w9 ⟨rfl, hB9⟩)
        go_ret
        exact ⟨rfl, HB8.out.trans (hB9.mono HB8.out.size)⟩
      · skip
        have hno : okR ⟨z, d, sp, sl, an⟩ ⟨0, 3, 0, 0, 3, ⟨zone, what, bytes⟩⟩ = false := by simp [okR, behOk]
        have HN := Lib.hid hno
        clear hno
        have H8 : Hid (Blk (W.setCell ⟨b7 + 1, 0, none⟩ (.int .i64 0)) (b7 + 1) 28 #[.int .i64 0, .int .i64 3, .int .i64 0, .int .i64 0, .int .i64 3, .int .i64 zone, .int .i64 what, .slice a bytes.length c]) := Lib.hid (HW.out.2.2.2.2.set_ 0 (.int .i64 0))
        have H5 := Lib.hid (show Below w.heap.size w (W.setCell ⟨b7 + 1, 0, none⟩ (.int .i64 0)) ∧ Blk (W.setCell ⟨b7 + 1, 0, none⟩ (.int .i64 0)) w.heap.size 23 #[.int .i64 z, .int .i64 d, .int .i64 sp, .int .i64 sl, .int .i64 an] ∧ Blk (W.setCell ⟨b7 + 1, 0, none⟩ (.int .i64 0)) b7 28 #[.int .i64 1, .int .i64 3, .int .i64 0, .int .i64 0, .int .i64 3, .int .i64 zone, .int .i64 what, .slice a bytes.length c] from
          ⟨HW.out.1.setCell (by have := HWl.out; simp; omega) _, HW.out.2.1.far (by have := HWl.out; simp; omega) _, HW.out.2.2.2.1.far (by simp) _⟩)
        obtain ⟨q1, q2, q3⟩ := HW.out.2.2.2.2.all
        obtain ⟨t1, t2, t3⟩ := HW.out.2.2.1.all
        obtain ⟨g1, g2, g3⟩ := HW.out.2.1.all
        go_upto_region 21 with fail
        clear q1 q2 q3 t1 t2 t3 g1 g2 g3
        obtain ⟨W5, hW5⟩ : ∃ W5, W5 = W.setCell ⟨b7 + 1, 0, none⟩ (.int .i64 0) := ⟨_, rfl⟩
        rw [← hW5] at H8 H5 ⊢
        clear hW5
        have hby := Lib.hid (rbytes_any ⟨z, d, sp, sl, an⟩ ⟨0, 3, 0, 0, 3, ⟨zone, what, bytes⟩⟩ (.slice a bytes.length c) W5 noM (H.out.mono (Keep.below H5.out.1)) (by simp; omega))
        unfold gv rv at hby
        simp only at hby
        obtain ⟨q1, q2, q3⟩ := H8.out.all
        obtain ⟨g1, g2, g3⟩ := H5.out.2.1.all
        go_wp2_with fail
        clear q1 q2 q3 g1 g2 g3
        ((with_reducible refine hby.out.mono ?_); rintro e w6 ⟨hU, hB6⟩)
        rcases hU with ⟨hbad, -⟩ | ⟨-, rfl⟩
        case inl => exact absurd hbad (by rw [HN.out]; simp)
        have HB6 := Lib.hid (H5.out.1.trans (hB6.mono H5.out.1.size))
        have HG6 := Lib.hid (H5.out.2.1.below hB6)
        have H76 := Lib.hid (H5.out.2.2.below hB6)
        have H86 := Lib.hid (H8.out.below hB6)
        have hc1 := Lib.hid (rcheck_any ⟨z, d, sp, sl, an⟩ ⟨1, 3, 0, 0, 3, ⟨zone, what, bytes⟩⟩ (.slice a bytes.length c) w6 noM (H.out.mono (Keep.below HB6.out)) (by simp; omega))
        rw [bent_ok HIO.out] at hc1
        unfold gv rv errV at hc1
        simp only [if_true] at hc1
        clear hB6 hby
        obtain ⟨q1, q2, q3⟩ := H76.out.all
        obtain ⟨g1, g2, g3⟩ := HG6.out.all
        go_wp2_with fail
        clear q1 q2 q3 g1 g2 g3
        ((with_reducible refine hc1.out.mono ?_); rintro e w7 ⟨rfl, hB7⟩)
        have HB7 := Lib.hid (HB6.out.trans (hB7.mono HB6.out.size))
        have HG7 := Lib.hid (HG6.out.below hB7)
        have H87 := Lib.hid (H86.out.below hB7)
        have hc2 := Lib.hid (rcheck_any ⟨z, d, sp, sl, an⟩ ⟨0, 3, 0, 0, 3, ⟨zone, what, bytes⟩⟩ (.slice a bytes.length c) w7 noM (H.out.mono (Keep.below HB7.out)) (by simp; omega))
        rw [HN.out] at hc2
        unfold gv rv errV at hc2
        simp only [Bool.false_eq_true, if_false] at hc2
        clear hB7 hc1
        obtain ⟨q1, q2, q3⟩ := H87.out.all
        obtain ⟨g1, g2, g3⟩ := HG7.out.all
        go_wp2_with fail
        clear q1 q2 q3 g1 g2 g3
        ((with_reducible refine hc2.out.mono ?_); rintro e w8 ⟨rfl, hB8⟩)
        have HB8 := Lib.hid (HB7.out.trans (hB8.mono HB7.out.size))
        have hwk := Lib.hid (wakes_any w8)
        clear hB8 hc2
        go_wp2_with (go_at_call 10; go_must (with_reducible refine hwk.out.mono ?_); rintro e w9 ⟨rfl, hB9⟩)
        go_ret
        exact ⟨rfl, HB8.out.trans (hB9.mono HB8.out.size)⟩
end Go.Proofs.Ytpknhpfbinplgaa
