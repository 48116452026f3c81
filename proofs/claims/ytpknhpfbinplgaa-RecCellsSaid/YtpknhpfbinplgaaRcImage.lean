/-
Package rec: whether an image is none, is right.
-/
import Derived.Test.YtpknhpfbinplgaaRcTread
namespace Go.Proofs.Ytpknhpfbinplgaa
open Go.RowKit
attribute [local go_sem ↓] Go.wp_at_zero Go.wp_at_succ

def noneB (x : Img) : Bool := x.zone == 0 && (x.what == 0 && (x.bytes.length : Int) == 0)
theorem none_any (x : Img) (a : Option Addr) (c : Nat) (w : World) :
    Calls Try.prog 58 #[.agg #[.int .i64 x.zone, .int .i64 x.what, .slice a x.bytes.length c]] w fun e w' => e = .returned (.bool (noneB x)) ∧ Below w.heap.size w w' := by
  have hB := Lib.hid (fun o => (Below.refl w.heap.size w).alloc (Nat.le_refl _) o)
  have hE := Lib.hid (show noneB x = (x.zone == 0 && (x.what == 0 && (x.bytes.length : Int) == 0)) from rfl)
  go_enter Try.func58, Try.ntmps58
  go_wp2
  all_goals
    go_ret
    refine ⟨?_, hB.out _⟩
    rw [hE.out]
    show Ending.returned (.bool _) = _
    simp [*]
/-- Whether an image is right. -/
def imgOk (g : Geo) (x : Img) : Bool := okG g && (inB x.zone 0 (g.z - 1) && (if x.what = 255 then (readT g x.bytes).isSome else inB x.what (-1) (g.d - 1) && decide (x.bytes.length = 8)))

set_option maxHeartbeats 4000000 in
theorem image_any (g : Geo) (x : Img) (v : Value) (w : World) (Mi : Ms) (h : SlR w Mi v x.bytes) (hl : x.bytes.length ≤ 100000) :
    Calls Try.prog 24 #[gv g, .agg #[.int .i64 x.zone, .int .i64 x.what, v]] w fun e w' => e = .returned (errV (imgOk g x)) ∧ Below w.heap.size w w' := by
  obtain ⟨zone, what, bytes⟩ := x
  obtain ⟨z, d, sp, sl, an⟩ := g
  simp only at h hl ⊢
  obtain ⟨a, c, rfl⟩ := h.form
  have hb1 := (Below.refl w.heap.size w).alloc (Nat.le_refl _) (.cells #[.int .i64 z, .int .i64 d, .int .i64 sp, .int .i64 sl, .int .i64 an] 23)
  have hb2 := hb1.alloc (by simp) (.cells #[.int .i64 zone, .int .i64 what, .slice a bytes.length c] 26)
  have hG := (Blk.new w 23 #[.int .i64 z, .int .i64 d, .int .i64 sp, .int .i64 sl, .int .i64 an]).alloc (.cells #[.int .i64 zone, .int .i64 what, .slice a bytes.length c] 26)
  have hT := Blk.new (w.alloc (.cells #[.int .i64 z, .int .i64 d, .int .i64 sp, .int .i64 sl, .int .i64 an] 23)) 26 #[.int .i64 zone, .int .i64 what, .slice a bytes.length c]
  simp only [World.size_alloc] at hT
  have HB := Lib.hid hb2
  have HG := Lib.hid hG
  have HT := Lib.hid hT
  have hgc := Lib.hid (gcheck_any ⟨z, d, sp, sl, an⟩ ((w.alloc (.cells #[.int .i64 z, .int .i64 d, .int .i64 sp, .int .i64 sl, .int .i64 an] 23)).alloc (.cells #[.int .i64 zone, .int .i64 what, .slice a bytes.length c] 26)))
  unfold gv at hgc ⊢
  simp only at hgc ⊢
  have H := Lib.hid h.bare
  clear hb1 hb2 hG hT h
  cases hok : okG ⟨z, d, sp, sl, an⟩ with
  | false =>
    have hE := Lib.hid (show imgOk ⟨z, d, sp, sl, an⟩ ⟨zone, what, bytes⟩ = false by simp [imgOk, hok])
    rw [hok] at hgc
    clear hok
    unfold errV at hgc
    go_enter Try.func24, Try.ntmps24
    go_wp2_with (go_at_call 33; go_must (with_reducible refine hgc.out.mono ?_); rintro e w1 ⟨rfl, hB1⟩)
    go_ret
    rw [hE.out]
    exact ⟨rfl, HB.out.trans (hB1.mono HB.out.size)⟩
  | true =>
    have hE := Lib.hid (show imgOk ⟨z, d, sp, sl, an⟩ ⟨zone, what, bytes⟩ = (inB zone 0 (z - 1) && (if what = 255 then (readT ⟨z, d, sp, sl, an⟩ bytes).isSome else inB what (-1) (d - 1) && decide (bytes.length = 8))) by simp [imgOk, hok])
    rw [hok] at hgc
    unfold errV at hgc
    obtain ⟨hz, hd, -⟩ := okG_iff.1 hok
    have hz1 : (1 : Int) ≤ z := hz.1
    have hz2 : z ≤ 4 := hz.2
    have hd1 : (1 : Int) ≤ d := hd.1
    have hd2 : d ≤ 4 := hd.2
    have hwz : IntKind.i64.wrap (z - 1) = z - 1 := by rw [IntKind.wrap_i64]; omega
    have hwd : IntKind.i64.wrap (d - 1) = d - 1 := by rw [IntKind.wrap_i64]; omega
    have hin := fun w => rin_any zone 0 (z - 1) w
    have hin2 := fun w => rin_any what (-1) (d - 1) w
    have HO := Lib.hid hok
    clear hz hd hok
    cases hzo : inB zone 0 (z - 1) with
    | false =>
      rw [hzo] at hE
      rw [hzo] at hin
      clear hzo
      go_enter Try.func24, Try.ntmps24
      go_wp2_with fail
      ((with_reducible refine hgc.out.mono ?_); rintro e w1 ⟨rfl, hB1⟩)
      obtain ⟨g1, g2, g3⟩ := (HG.out.below hB1).all
      obtain ⟨t1, t2, t3⟩ := (HT.out.below hB1).all
      go_wp2_with (go_at_call 41; go_must (with_reducible refine (hin _).mono ?_); rintro e w1 ⟨rfl, rfl⟩)
      go_ret
      rw [hE.out]
      exact ⟨rfl, HB.out.trans (hB1.mono HB.out.size)⟩
    | true =>
      rw [hzo] at hE
      rw [hzo] at hin
      clear hzo
      by_cases hw : what = 255
      · subst hw
        rw [if_pos rfl] at hE
        go_enter Try.func24, Try.ntmps24
        go_wp2_with fail
        ((with_reducible refine hgc.out.mono ?_); rintro e w1 ⟨rfl, hB1⟩)
        obtain ⟨g1, g2, g3⟩ := (HG.out.below hB1).all
        obtain ⟨t1, t2, t3⟩ := (HT.out.below hB1).all
        have HB1 := Lib.hid (HB.out.trans (hB1.mono HB.out.size))
        have htr := Lib.hid (tread_any ⟨z, d, sp, sl, an⟩ (.slice a bytes.length c) bytes w1 noM (H.out.mono (Keep.below HB1.out)) hl)
        unfold gv at htr
        simp only at htr
        clear hB1
        go_wp2_with fail
        ((with_reducible refine (hin _).mono ?_); rintro e w1 ⟨rfl, rfl⟩)
        go_wp2_with fail
        ((with_reducible refine htr.out.mono ?_); rintro e w2 ⟨hU, hB2⟩)
        have HB2 := Lib.hid (HB1.out.trans (hB2.mono HB1.out.size))
        clear hB2
        rcases hU with ⟨hno, -⟩ | ⟨-, hno, rfl⟩ | ⟨-, vt, lt, hyes, rfl, ho⟩
        · rw [HO.out] at hno; cases hno
        · have hF := Lib.hid hno
          clear hno
          go_wp2
          go_ret
          rw [hE.out, hF.out]
          exact ⟨rfl, HB2.out.trans (((Below.refl w2.heap.size w2).alloc (Nat.le_refl _) _).mono HB2.out.size)⟩
        · have hF := Lib.hid hyes
          obtain ⟨at_, ct, rfl⟩ := ho.form
          clear hyes ho
          go_wp2
          go_ret
          rw [hE.out, hF.out]
          exact ⟨rfl, HB2.out.trans (((Below.refl w2.heap.size w2).alloc (Nat.le_refl _) _).mono HB2.out.size)⟩
      · rw [if_neg hw] at hE
        have hw' : (what == 255) = false := by simpa using hw
        clear hw
        cases hwo : inB what (-1) (d - 1) with
        | false =>
          rw [hwo] at hE
          rw [hwo] at hin2
          clear hwo
          go_enter Try.func24, Try.ntmps24
          go_wp2_with fail
          ((with_reducible refine hgc.out.mono ?_); rintro e w1 ⟨rfl, hB1⟩)
          obtain ⟨g1, g2, g3⟩ := (HG.out.below hB1).all
          obtain ⟨t1, t2, t3⟩ := (HT.out.below hB1).all
          go_wp2_with (go_at_call 41; go_must (first | (with_reducible refine (hin _).mono ?_) | (with_reducible refine (hin2 _).mono ?_)); rintro e w1 ⟨rfl, rfl⟩)
          go_ret
          rw [hE.out]
          exact ⟨rfl, HB.out.trans (hB1.mono HB.out.size)⟩
        | true =>
          rw [hwo] at hE
          rw [hwo] at hin2
          clear hwo
          go_enter Try.func24, Try.ntmps24
          go_wp2_with fail
          ((with_reducible refine hgc.out.mono ?_); rintro e w1 ⟨rfl, hB1⟩)
          obtain ⟨g1, g2, g3⟩ := (HG.out.below hB1).all
          obtain ⟨t1, t2, t3⟩ := (HT.out.below hB1).all
          by_cases h8 : bytes.length = 8
          · have h8' : ((bytes.length : Int) != 8) = false := by simp; omega
            have hF := Lib.hid (show decide (bytes.length = 8) = true by simpa using h8)
            clear h8
            go_wp2_with (go_at_call 41; go_must (first | (with_reducible refine (hin _).mono ?_) | (with_reducible refine (hin2 _).mono ?_)); rintro e w1 ⟨rfl, rfl⟩)
            go_ret
            rw [hE.out, hF.out]
            exact ⟨rfl, HB.out.trans (hB1.mono HB.out.size)⟩
          · have h8' : ((bytes.length : Int) != 8) = true := by simp; omega
            have hF := Lib.hid (show decide (bytes.length = 8) = false by simpa using h8)
            clear h8
            go_wp2_with (go_at_call 41; go_must (first | (with_reducible refine (hin _).mono ?_) | (with_reducible refine (hin2 _).mono ?_)); rintro e w1 ⟨rfl, rfl⟩)
            go_ret
            rw [hE.out, hF.out]
            exact ⟨rfl, HB.out.trans (hB1.mono HB.out.size)⟩
end Go.Proofs.Ytpknhpfbinplgaa
