/-
The reference: whether an image is right.
-/
import Derived.Test.YtpknhpfbinplgaaRfReadT2
namespace Go.Proofs.Ytpknhpfbinplgaa
open Go.RowKit
attribute [local go_sem ↓] Go.wp_at_zero Go.wp_at_succ

theorem rwhat_any (g : Geo) (n : Int) (w : World) (hg : okG g = true) : Calls Try.prog 46 #[gv g, .int .i64 n] w fun e w' => e = .returned (.bool (inB n (-1) (g.d - 1))) ∧ Below w.heap.size w w' := by
  obtain ⟨z, d, sp, sl, an⟩ := g
  have HB := Lib.hid ((Below.refl w.heap.size w).alloc (Nat.le_refl _) (.cells #[.int .i64 z, .int .i64 d, .int .i64 sp, .int .i64 sl, .int .i64 an] 23))
  obtain ⟨-, hd, -⟩ := okG_iff.1 hg
  have hd1 : (1 : Int) ≤ d := hd.1
  have hd2 : d ≤ 4 := hd.2
  have hw : IntKind.i64.wrap (d - 1) = d - 1 := by rw [IntKind.wrap_i64]; omega
  have hin := fun w => rf8in_any n (-1) (d - 1) w
  unfold gv
  simp only
  obtain ⟨bb, hbb⟩ : ∃ bb, bb = inB n (-1) (d - 1) := ⟨_, rfl⟩
  rw [← hbb] at hin ⊢
  clear hd hg hbb
  go_enter Try.func46, Try.ntmps46
  go_wp2_with (go_at_call 62; go_must (with_reducible refine (hin _).mono ?_); rintro e w1 ⟨rfl, rfl⟩)
  go_ret
  exact ⟨rfl, HB.out⟩

set_option maxHeartbeats 4000000 in
theorem rimage_any (g : Geo) (x : Img) (v : Value) (w : World) (Mi : Ms) (h : SlR w Mi v x.bytes) (hl : x.bytes.length ≤ 100000) (hg : okG g = true) :
    Calls Try.prog 20 #[gv g, .agg #[.int .i64 x.zone, .int .i64 x.what, v]] w fun e w' => e = .returned (.bool (imgOk g x)) ∧ Below w.heap.size w w' := by
  obtain ⟨zone, what, bytes⟩ := x
  obtain ⟨z, d, sp, sl, an⟩ := g
  simp only at h hl ⊢
  obtain ⟨a, c, rfl⟩ := h.form
  have hb1 := (Below.refl w.heap.size w).alloc (Nat.le_refl _) (.cells #[.int .i64 z, .int .i64 d, .int .i64 sp, .int .i64 sl, .int .i64 an] 23)
  have hb2 := hb1.alloc (by simp) (.cells #[.int .i64 zone, .int .i64 what, .slice a bytes.length c] 26)
  have hT := Blk.new (w.alloc (.cells #[.int .i64 z, .int .i64 d, .int .i64 sp, .int .i64 sl, .int .i64 an] 23)) 26 #[.int .i64 zone, .int .i64 what, .slice a bytes.length c]
  simp only [World.size_alloc] at hT
  have HB := Lib.hid hb2
  have HT := Lib.hid hT
  have H := Lib.hid (h.bare.mono (Keep.below hb2))
  have HOK := Lib.hid hg
  have hE0 : imgOk ⟨z, d, sp, sl, an⟩ ⟨zone, what, bytes⟩ = (inB zone 0 (z - 1) && (if what = 255 then (readT ⟨z, d, sp, sl, an⟩ bytes).isSome else inB what (-1) (d - 1) && decide (bytes.length = 8))) := by simp [imgOk, hg]
  have hE := Lib.hid hE0
  obtain ⟨hz, -, -⟩ := okG_iff.1 hg
  have hz1 : (1 : Int) ≤ z := hz.1
  have hz2 : z ≤ 4 := hz.2
  have hwz : IntKind.i64.wrap (z - 1) = z - 1 := by rw [IntKind.wrap_i64]; omega
  have hin := fun w => rf15in_any zone 0 (z - 1) w
  unfold gv
  simp only
  clear hb1 hb2 hT h hg hE0 hz
  cases hzo : inB zone 0 (z - 1) with
  | false =>
    rw [hzo] at hE hin
    clear hzo
    go_enter Try.func20, Try.ntmps20
    go_wp2_with (go_at_call 44; go_must (with_reducible refine (hin _).mono ?_); rintro e w1 ⟨rfl, rfl⟩)
    go_ret
    rw [hE.out]
    exact ⟨rfl, HB.out⟩
  | true =>
    rw [hzo] at hE hin
    clear hzo
    by_cases hw : what = 255
    · subst hw
      rw [if_pos rfl] at hE
      have htr := Lib.hid (rreadT_any ⟨z, d, sp, sl, an⟩ (.slice a bytes.length c) bytes _ noM H.out hl HOK.out)
      unfold gv at htr
      simp only at htr
      go_enter Try.func20, Try.ntmps20
      go_wp2_with fail
      ((with_reducible refine (hin _).mono ?_); rintro e w1 ⟨rfl, rfl⟩)
      go_wp2_with fail
      ((with_reducible refine htr.out.mono ?_); rintro e w2 ⟨hU, hB2⟩)
      have HB2 := Lib.hid (HB.out.trans (hB2.mono HB.out.size))
      clear hB2
      rcases hU with ⟨hno, rfl⟩ | ⟨vt, lt, hyes, rfl, ho⟩
      · have hF := Lib.hid hno
        clear hno
        go_wp2
        go_ret
        rw [hE.out, hF.out]
        exact ⟨rfl, HB2.out.trans (((Below.refl w2.heap.size w2).alloc (Nat.le_refl _) _).mono HB2.out.size)⟩
      · have hF := Lib.hid hyes
        obtain ⟨at_, ct, rfl⟩ := ho.form
        clear hyes ho
        go_wp2
        go_ret
        rw [hE.out, hF.out]
        exact ⟨rfl, HB2.out.trans (((Below.refl w2.heap.size w2).alloc (Nat.le_refl _) _).mono HB2.out.size)⟩
    · rw [if_neg hw] at hE
      have hw' : (what == 255) = false := by simpa using hw
      have hwh := Lib.hid (fun w' => rwhat_any ⟨z, d, sp, sl, an⟩ what w' HOK.out)
      unfold gv at hwh
      simp only at hwh
      clear hw
      cases hwo : inB what (-1) (d - 1) with
      | false =>
        rw [hwo] at hE hwh
        clear hwo
        go_enter Try.func20, Try.ntmps20
        go_wp2_with fail
        ((with_reducible refine (hin _).mono ?_); rintro e w1 ⟨rfl, rfl⟩)
        go_wp2_with fail
        ((with_reducible refine (hwh.out _).mono ?_); rintro e w2 ⟨rfl, hB2⟩)
        have HB2 := Lib.hid (HB.out.trans (hB2.mono HB.out.size))
        clear hB2
        go_wp2
        go_ret
        rw [hE.out]
        exact ⟨rfl, HB2.out⟩
      | true =>
        rw [hwo] at hE hwh
        clear hwo
        go_enter Try.func20, Try.ntmps20
        go_wp2_with fail
        ((with_reducible refine (hin _).mono ?_); rintro e w1 ⟨rfl, rfl⟩)
        go_wp2_with fail
        ((with_reducible refine (hwh.out _).mono ?_); rintro e w2 ⟨rfl, hB2⟩)
        have HB2 := Lib.hid (HB.out.trans (hB2.mono HB.out.size))
        obtain ⟨t1, t2, t3⟩ := (HT.out.below hB2).all
        clear hB2
        by_cases h8 : bytes.length = 8
        · have h8' : ((bytes.length : Int) == 8) = true := by simp; omega
          have hF := Lib.hid (show decide (bytes.length = 8) = true by simpa using h8)
          clear h8
          go_wp2
          go_ret
          rw [hE.out, hF.out]
          exact ⟨rfl, HB2.out⟩
        · have h8' : ((bytes.length : Int) == 8) = false := by simp; omega
          have hF := Lib.hid (show decide (bytes.length = 8) = false by simpa using h8)
          clear h8
          go_wp2
          go_ret
          rw [hE.out, hF.out]
          exact ⟨rfl, HB2.out⟩
end Go.Proofs.Ytpknhpfbinplgaa
