/-
The reference: whether a record is right (of a right geometry).
-/
import Derived.Test.YtpknhpfbinplgaaRfImage
import Derived.Test.YtpknhpfbinplgaaRcRec0
import Derived.Test.YtpknhpfbinplgaaRcKeep
namespace Go.Proofs.Ytpknhpfbinplgaa
open Go.RowKit
attribute [local go_sem ↓] Go.wp_at_zero Go.wp_at_succ

theorem noneB_eq (x : Img) : decide (x = ⟨0, 0, []⟩) = noneB x := by
  obtain ⟨zone, what, bytes⟩ := x
  rw [Bool.eq_iff_iff]
  simp only [decide_eq_true_eq, noneB, Img.mk.injEq, Bool.and_eq_true, beq_iff_eq]
  refine ⟨fun ⟨h1, h2, h3⟩ => ⟨h1, h2, by rw [h3]; rfl⟩, fun ⟨h1, h2, h3⟩ => ⟨h1, h2, ?_⟩⟩
  exact List.length_eq_zero_iff.1 (by omega)

set_option maxRecDepth 100000 in
set_option maxHeartbeats 8000000 in
theorem rrec_any (g : Geo) (r : Rc) (v : Value) (w : World) (Mi : Ms) (h : SlR w Mi v r.img.bytes) (hl : r.img.bytes.length ≤ 100000) (hg : okG g = true) :
    Calls Try.prog 28 #[gv g, rv r v] w fun e w' => e = .returned (.bool (okR g r)) ∧ Below w.heap.size w w' := by
  obtain ⟨kind, seq, epoch, at_, of_, ⟨zone, what, bytes⟩⟩ := r
  obtain ⟨z, d, sp, sl, an⟩ := g
  simp only at h hl
  obtain ⟨a, c, rfl⟩ := h.form
  have hb1 := (Below.refl w.heap.size w).alloc (Nat.le_refl _) (.cells #[.int .i64 z, .int .i64 d, .int .i64 sp, .int .i64 sl, .int .i64 an] 23)
  have hb2 := hb1.alloc (by simp) (.cells #[.int .i64 kind, .int .i64 seq, .int .i64 epoch, .int .i64 at_, .int .i64 of_, .int .i64 zone, .int .i64 what, .slice a bytes.length c] 28)
  have hT := Blk.new (w.alloc (.cells #[.int .i64 z, .int .i64 d, .int .i64 sp, .int .i64 sl, .int .i64 an] 23)) 28 #[.int .i64 kind, .int .i64 seq, .int .i64 epoch, .int .i64 at_, .int .i64 of_, .int .i64 zone, .int .i64 what, .slice a bytes.length c]
  simp only [World.size_alloc] at hT
  have HG := Lib.hid ((Blk.new w 23 #[.int .i64 z, .int .i64 d, .int .i64 sp, .int .i64 sl, .int .i64 an]).alloc (.cells #[.int .i64 kind, .int .i64 seq, .int .i64 epoch, .int .i64 at_, .int .i64 of_, .int .i64 zone, .int .i64 what, .slice a bytes.length c] 28))
  have HB := Lib.hid hb2
  have HT := Lib.hid hT
  have H := Lib.hid h.bare
  have HOK := Lib.hid hg
  have hE0 : okR ⟨z, d, sp, sl, an⟩ ⟨kind, seq, epoch, at_, of_, ⟨zone, what, bytes⟩⟩ = behOk ⟨z, d, sp, sl, an⟩ ⟨kind, seq, epoch, at_, of_, ⟨zone, what, bytes⟩⟩ := by simp [okR, hg]
  have hE := Lib.hid hE0
  have HL := Lib.hid hl
  have hki := Lib.hid (kimage_any ⟨zone, what, bytes⟩ ⟨0, 0, []⟩ (.slice a bytes.length c) (.slice none 0 0) _ noM noM (H.out.mono (Keep.below HB.out)) (sl_nil _ _ _ (by simp [maxLen])) (by simp only; omega))
  rw [noneB_eq] at hki
  obtain ⟨nb, hnb⟩ : ∃ nb, nb = noneB ⟨zone, what, bytes⟩ := ⟨_, rfl⟩
  rw [← hnb] at hki
  have HNB := Lib.hid hnb
  simp only at hki
  unfold gv rv
  simp only
  clear hb1 hb2 hT h hg hE0 hl hnb
  go_enter Try.func28, Try.ntmps28
  go_wp2_with fail
  ((with_reducible refine hki.out.mono ?_); rintro e w1 ⟨rfl, hB1⟩)
  have HB1 := Lib.hid (HB.out.trans (hB1.mono HB.out.size))
  have HG1 := Lib.hid (HG.out.below hB1)
  have HT1 := Lib.hid (HT.out.below hB1)
  clear hB1 hki HB HG HT
  by_cases hk0 : kind = 0
  · subst hk0
    have hE1 : okR ⟨z, d, sp, sl, an⟩ ⟨0, seq, epoch, at_, of_, ⟨zone, what, bytes⟩⟩ = (seq == 0 && (epoch == 0 && (at_ == 0 && (of_ == 0 && nb)))) := by rw [hE.out, HNB.out]; rfl
    have hF := Lib.hid hE1
    clear hE hE1 HNB
    obtain ⟨t1, t2, t3⟩ := HT1.out.all
    cases hseq : (seq == 0) with
    | false =>
      rw [hseq] at hF
      go_wp2
      go_ret
      rw [hF.out]
      exact ⟨rfl, HB1.out⟩
    | true =>
      rw [hseq] at hF
      cases hepoch : (epoch == 0) with
      | false =>
        rw [hepoch] at hF
        go_wp2
        go_ret
        rw [hF.out]
        exact ⟨rfl, HB1.out⟩
      | true =>
        rw [hepoch] at hF
        cases hat_ : (at_ == 0) with
        | false =>
          rw [hat_] at hF
          go_wp2
          go_ret
          rw [hF.out]
          exact ⟨rfl, HB1.out⟩
        | true =>
          rw [hat_] at hF
          cases hof_ : (of_ == 0) with
          | false =>
            rw [hof_] at hF
            go_wp2
            go_ret
            rw [hF.out]
            exact ⟨rfl, HB1.out⟩
          | true =>
            rw [hof_] at hF
            cases nb with
            | false =>
              go_wp2
              go_ret
              rw [hF.out]
              exact ⟨rfl, HB1.out⟩
            | true =>
              go_wp2
              go_ret
              rw [hF.out]
              exact ⟨rfl, HB1.out⟩
  have hk0' : (kind == 0) = false := beq_eq_false_iff_ne.2 hk0
  have hns := fun w => rf15in_any seq 0 4294967295 w
  have hne := fun w => rf15in_any epoch 0 4294967295 w
  have hno := fun w => rf15in_any of_ 2 30 w
  have hF0 : okR ⟨z, d, sp, sl, an⟩ ⟨kind, seq, epoch, at_, of_, ⟨zone, what, bytes⟩⟩ = (if kind = 1 then (inB seq 0 4294967295 && (inB epoch 0 4294967295 && inB of_ 2 30)) && (inB at_ 0 (of_ - 2) && imgOk ⟨z, d, sp, sl, an⟩ ⟨zone, what, bytes⟩) else if kind = 2 then (inB seq 0 4294967295 && (inB epoch 0 4294967295 && inB of_ 2 30)) && (at_ == of_ - 1 && nb) else false) := by rw [hE.out, HNB.out, behOk, if_neg hk0]; rfl
  have hF := Lib.hid hF0
  clear hF0 hE HNB hk0
  obtain ⟨t1, t2, t3⟩ := HT1.out.all
  cases hs : inB seq 0 4294967295 with
  | false =>
    rw [hs] at hF hns
    clear hs
    go_wp2_with fail
    ((with_reducible refine (hns _).mono ?_); rintro e w2 ⟨rfl, rfl⟩)
    go_wp2
    go_ret
    refine ⟨?_, HB1.out⟩
    rw [hF.out]
    simp
  | true =>
  rw [hs] at hF hns
  clear hs
  cases hs : inB epoch 0 4294967295 with
  | false =>
    rw [hs] at hF hne
    clear hs
    go_wp2_with fail
    ((with_reducible refine (hns _).mono ?_); rintro e w2 ⟨rfl, rfl⟩)
    go_wp2_with fail
    ((with_reducible refine (hne _).mono ?_); rintro e w2 ⟨rfl, rfl⟩)
    go_wp2
    go_ret
    refine ⟨?_, HB1.out⟩
    rw [hF.out]
    simp
  | true =>
  rw [hs] at hF hne
  clear hs
  cases hs : inB of_ 2 30 with
  | false =>
    rw [hs] at hF hno
    clear hs
    go_wp2_with fail
    ((with_reducible refine (hns _).mono ?_); rintro e w2 ⟨rfl, rfl⟩)
    go_wp2_with fail
    ((with_reducible refine (hne _).mono ?_); rintro e w2 ⟨rfl, rfl⟩)
    go_wp2_with fail
    ((with_reducible refine (hno _).mono ?_); rintro e w2 ⟨rfl, rfl⟩)
    go_wp2
    go_ret
    refine ⟨?_, HB1.out⟩
    rw [hF.out]
    simp
  | true =>
  rw [hs] at hF hno
  have hob := inB_iff.1 hs
  clear hs
  simp only [Bool.and_self, Bool.true_and] at hF
  go_wp2_with fail
  ((with_reducible refine (hns _).mono ?_); rintro e w2 ⟨rfl, rfl⟩)
  go_wp2_with fail
  ((with_reducible refine (hne _).mono ?_); rintro e w2 ⟨rfl, rfl⟩)
  go_wp2_with fail
  ((with_reducible refine (hno _).mono ?_); rintro e w2 ⟨rfl, rfl⟩)
  clear hns hne hno
  obtain ⟨ob1, ob2⟩ := hob
  by_cases hk2 : kind = 2
  · subst hk2
    have hwo : IntKind.i64.wrap (of_ - 1) = of_ - 1 := by rw [IntKind.wrap_i64]; omega
    rw [if_neg (by decide), if_pos rfl] at hF
    cases ha : (at_ == of_ - 1) with
    | false =>
      rw [ha] at hF
      go_wp2
      go_ret
      rw [hF.out]
      exact ⟨rfl, HB1.out⟩
    | true =>
      rw [ha] at hF
      cases nb with
      | false =>
        go_wp2
        go_ret
        rw [hF.out]
        exact ⟨rfl, HB1.out⟩
      | true =>
        go_wp2
        go_ret
        rw [hF.out]
        exact ⟨rfl, HB1.out⟩
  have hk2' : (kind == 2) = false := beq_eq_false_iff_ne.2 hk2
  by_cases hk1 : kind = 1
  · subst hk1
    rw [if_pos rfl] at hF
    clear hk2 hk2'
    have hwo : IntKind.i64.wrap (of_ - 2) = of_ - 2 := by rw [IntKind.wrap_i64]; omega
    have hna := fun w => rf15in_any at_ 0 (of_ - 2) w
    cases hs : inB at_ 0 (of_ - 2) with
    | false =>
      rw [hs] at hF hna
      clear hs
      go_wp2_with fail
      ((with_reducible refine (hna _).mono ?_); rintro e w2 ⟨rfl, rfl⟩)
      go_wp2
      go_ret
      rw [hF.out]
      exact ⟨rfl, HB1.out⟩
    | true =>
      rw [hs] at hF hna
      clear hs
      have him := Lib.hid (fun w' (hb : Below w.heap.size w w') => rimage_any ⟨z, d, sp, sl, an⟩ ⟨zone, what, bytes⟩ (.slice a bytes.length c) w' noM (H.out.mono (Keep.below hb)) HL.out HOK.out)
      unfold gv at him
      simp only at him
      obtain ⟨bb, hbb⟩ : ∃ bb, bb = imgOk ⟨z, d, sp, sl, an⟩ ⟨zone, what, bytes⟩ := ⟨_, rfl⟩
      rw [← hbb] at him hF
      clear hbb
      obtain ⟨g1, g2, g3⟩ := HG1.out.all
      go_wp2_with fail
      ((with_reducible refine (hna _).mono ?_); rintro e w2 ⟨rfl, rfl⟩)
      go_wp2_with fail
      clear g1 g2 g3 t1 t2 t3
      ((with_reducible refine (him.out _ HB1.out).mono ?_); rintro e w3 ⟨rfl, hB3⟩)
      have HB3 := Lib.hid (HB1.out.trans (hB3.mono HB1.out.size))
      clear hB3 him
      go_wp2
      go_ret
      rw [hF.out]
      exact ⟨by simp, HB3.out⟩
  have hk1' : (kind == 1) = false := beq_eq_false_iff_ne.2 hk1
  rw [if_neg hk1, if_neg hk2] at hF
  go_wp2
  go_ret
  rw [hF.out]
  exact ⟨rfl, HB1.out⟩
end Go.Proofs.Ytpknhpfbinplgaa
