/-
The law DiskExact, one of its cases: what comes of any reading, writing, flushing, cutting off, fault, of any disk, and the disk behind it, are the page's.
-/
import Derived.Test.YtkdjacmabeeceaaExact1
namespace Go.Proofs.Ytkdjacmabeeceaa
open Go.RowKit
attribute [local go_sem ↓] Go.wp_at_zero Go.wp_at_succ

set_option maxRecDepth 100000 in
set_option maxHeartbeats 64000000 in
theorem exact_lt (v vx : Value) (d : Dis) (a keep kind fr bit : Int) (x : List UInt8) (hk63 : keep < 9223372036854775808) (w : World) (h : Rv w noM v d) (hx : SlR w noM vx x) (hD : disB d = true) (h1 : a < 0) :
    Calls Try.prog 8 #[v, .int .i64 a, vx, .int .i64 keep, .int .i64 kind, .int .i64 fr, .int .i64 bit] w fun e w' => e = .returned (.bool true) ∧ Below w.heap.size w w' := by
  obtain ⟨Ac0, nc0, Ak0, nk0, rfl⟩ := dis_form h
  obtain ⟨ax, cx, rfl⟩ := hx.form
  have hal := (Below.refl w.heap.size w).alloc (Nat.le_refl _) (.cells #[.slice Ac0 d.cells.length nc0, .slice Ak0 d.cache.length nk0, .int .i64 d.reqs, .int .i64 d.left] 27)
  have B := Lib.hid hal
  have X0 := Lib.hid (BoxD.new h)
  have SX := Lib.hid (SlR.mono hx (Keep.below hal))
  clear h hx hal
  go_enter Try.func8, Try.ntmps8
  go_wp2_with fail
  generalize w.alloc (.cells #[.slice Ac0 d.cells.length nc0, .slice Ak0 d.cache.length nk0, .int .i64 d.reqs, .int .i64 d.left] 27) = w0 at *
  generalize hb0 : w.heap.size = b0 at X0 ⊢
  refine (heavy_any _ d w0 noM X0.out.rv).mono ?_
  rintro e w1 ⟨⟨hb, rfl, hf⟩, hB1⟩
  replace X0 := Lib.hid (BoxD.below X0.out (hB1))
  replace SX := Lib.hid (SlR.mono SX.out (Keep.below (hB1)))
  replace B := Lib.hid (upx B.out (hB1))
  subst hb0
  clear hB1
  cases hb
  case true =>
    go_wp2
    go_ret
    exact ⟨rfl, B.out⟩
  have hs := Lib.hid (hf rfl).small
  clear hf
  by_cases hx2 : x.length ≤ 300
  case neg =>
    have hx2' : (300 : Int) < x.length := by omega
    go_wp2
    go_ret
    exact ⟨rfl, B.out⟩
  have hx2' : ¬ (300 : Int) < x.length := by omega
  have hd1 : d.cells.length ≤ 1000000000 := hs.out.1
  have hd2 : d.cache.length ≤ 1000000000 := hs.out.2.1
  obtain ⟨R, xx, e, hE1⟩ : ∃ R xx e, readT d a = (R, xx, e) := ⟨_, _, _, rfl⟩
  obtain ⟨W, f, hE2⟩ : ∃ W f, writeT d a x = (W, f) := ⟨_, _, rfl⟩
  obtain ⟨L, g, hE3⟩ : ∃ L g, flushT d = (L, g) := ⟨_, _, rfl⟩
  obtain ⟨C, h, hE4⟩ : ∃ C h, crashT d keep = (C, h) := ⟨_, _, rfl⟩
  obtain ⟨U, i, hE5⟩ : ∃ U i, faultT d kind a fr bit bit = (U, i) := ⟨_, _, rfl⟩
  replace hE1 := Lib.hid hE1
  replace hE2 := Lib.hid hE2
  replace hE3 := Lib.hid hE3
  replace hE4 := Lib.hid hE4
  replace hE5 := Lib.hid hE5
  obtain ⟨u1, f1, l1⟩ := X0.out.blk.all
  go_wp2_with fail
  clear u1 f1 l1
  refine (ktwin_any _ d w1 noM X0.out.rv (noMok _) hs.out).mono ?_
  rintro q w2 ⟨r2, rfl, hr2, hB2⟩
  obtain ⟨Ac2, nc2, Ak2, nk2, rfl⟩ := dis_form hr2
  have hal := (Below.refl w2.heap.size w2).alloc (Nat.le_refl _) (.cells #[.slice Ac2 d.cells.length nc2, .slice Ak2 d.cache.length nk2, .int .i64 d.reqs, .int .i64 d.left] 27)
  have hal2 := (Below.refl (w2.alloc (.cells #[.slice Ac2 d.cells.length nc2, .slice Ak2 d.cache.length nk2, .int .i64 d.reqs, .int .i64 d.left] 27)).heap.size (w2.alloc (.cells #[.slice Ac2 d.cells.length nc2, .slice Ak2 d.cache.length nk2, .int .i64 d.reqs, .int .i64 d.left] 27))).alloc (Nat.le_refl _) (.cells #[.slice none 0 0, .slice none 0 0, .int .i64 0, .int .i64 0] 27)
  replace X0 := Lib.hid (BoxD.below X0.out (hB2))
  replace SX := Lib.hid (SlR.mono SX.out (Keep.below (hB2)))
  replace B := Lib.hid (upx B.out (hB2))
  replace X0 := Lib.hid (BoxD.below X0.out (hal))
  replace SX := Lib.hid (SlR.mono SX.out (Keep.below (hal)))
  replace B := Lib.hid (upx B.out (hal))
  replace X0 := Lib.hid (BoxD.below X0.out (hal2))
  replace SX := Lib.hid (SlR.mono SX.out (Keep.below (hal2)))
  replace B := Lib.hid (upx B.out (hal2))
  have XI := Lib.hid (BoxD.below (BoxD.new hr2) hal2)
  have hN := BoxD.new (w := (w2.alloc (.cells #[.slice Ac2 d.cells.length nc2, .slice Ak2 d.cache.length nk2, .int .i64 d.reqs, .int .i64 d.left] 27))) (c := .slice none 0 0) (k := .slice none 0 0) (d := noD) (rv_noD _ _)
  have hsz : (w2.alloc (.cells #[.slice Ac2 d.cells.length nc2, .slice Ak2 d.cache.length nk2, .int .i64 d.reqs, .int .i64 d.left] 27)).heap.size = w2.heap.size + 1 := by simp
  have XN : Hid (BoxD ((w2.alloc (.cells #[.slice Ac2 d.cells.length nc2, .slice Ak2 d.cache.length nk2, .int .i64 d.reqs, .int .i64 d.left] 27)).alloc (.cells #[.slice none 0 0, .slice none 0 0, .int .i64 0, .int .i64 0] 27)) (w2.heap.size + 1) (.slice none 0 0) (.slice none 0 0) noD) := Lib.hid (hsz ▸ hN)
  clear hN hsz hr2 hB2 hal hal2
  go_wp2_with fail
  generalize ((w2.alloc (.cells #[.slice Ac2 d.cells.length nc2, .slice Ak2 d.cache.length nk2, .int .i64 d.reqs, .int .i64 d.left] 27)).alloc (.cells #[.slice none 0 0, .slice none 0 0, .int .i64 0, .int .i64 0] 27)) = w2s at *
  generalize w2.heap.size + 1 = bN at *
  generalize w2.heap.size = bI at *
  refine (tread_any _ d a w2s noM XI.out.rv (noMok _) hd1 hd2).mono ?_
  rw [hE1.out]
  try dsimp only
  rintro q w3 ⟨r3, s3, rfl, hr3, hs3, hB3⟩
  obtain ⟨Ac3, nc3, Ak3, nk3, rfl⟩ := dis_form hr3
  obtain ⟨As3, ns3, rfl⟩ := SlR.form hs3
  have hal := (Below.refl w3.heap.size w3).alloc (Nat.le_refl _) (.cells #[.slice Ac3 R.cells.length nc3, .slice Ak3 R.cache.length nk3, .int .i64 R.reqs, .int .i64 R.left] 27)
  replace X0 := Lib.hid (BoxD.below X0.out (hB3))
  replace XI := Lib.hid (BoxD.below XI.out (hB3))
  replace XN := Lib.hid (BoxD.below XN.out (hB3))
  replace SX := Lib.hid (SlR.mono SX.out (Keep.below (hB3)))
  replace B := Lib.hid (upx B.out (hB3))
  obtain ⟨u4, f4, l4⟩ := XI.out.blk.all
  replace X0 := Lib.hid (BoxD.below X0.out (hal))
  replace XI := Lib.hid (BoxD.below XI.out (hal))
  replace XN := Lib.hid (BoxD.below XN.out (hal))
  replace SX := Lib.hid (SlR.mono SX.out (Keep.below (hal)))
  replace B := Lib.hid (upx B.out (hal))
  have XR := Lib.hid (BoxD.new hr3)
  have SR := Lib.hid (SlR.mono hs3 (Keep.below hal))
  clear hr3 hB3 hal hs3
  go_wp2_with fail
  clear u4 f4 l4
  generalize w3.alloc (.cells #[.slice Ac3 R.cells.length nc3, .slice Ak3 R.cache.length nk3, .int .i64 R.reqs, .int .i64 R.left] 27) = w3s at *
  generalize w3.heap.size = bR at *
  refine (twrite_any _ _ d a x w3s noM XI.out.rv SX.out (noMok _) hd1 hd2 (by omega)).mono ?_
  rw [hE2.out]
  try dsimp only
  rintro q w5 ⟨r5, rfl, hr5, hB5⟩
  obtain ⟨Ac5, nc5, Ak5, nk5, rfl⟩ := dis_form hr5
  have hal := (Below.refl w5.heap.size w5).alloc (Nat.le_refl _) (.cells #[.slice Ac5 W.cells.length nc5, .slice Ak5 W.cache.length nk5, .int .i64 W.reqs, .int .i64 W.left] 27)
  replace X0 := Lib.hid (BoxD.below X0.out (hB5))
  replace XI := Lib.hid (BoxD.below XI.out (hB5))
  replace XN := Lib.hid (BoxD.below XN.out (hB5))
  replace SX := Lib.hid (SlR.mono SX.out (Keep.below (hB5)))
  replace B := Lib.hid (upx B.out (hB5))
  replace XR := Lib.hid (BoxD.below XR.out (hB5))
  replace SR := Lib.hid (SlR.mono SR.out (Keep.below (hB5)))
  obtain ⟨u6, f6, l6⟩ := XI.out.blk.all
  replace X0 := Lib.hid (BoxD.below X0.out (hal))
  replace XI := Lib.hid (BoxD.below XI.out (hal))
  replace XN := Lib.hid (BoxD.below XN.out (hal))
  replace SX := Lib.hid (SlR.mono SX.out (Keep.below (hal)))
  replace B := Lib.hid (upx B.out (hal))
  replace XR := Lib.hid (BoxD.below XR.out (hal))
  replace SR := Lib.hid (SlR.mono SR.out (Keep.below (hal)))
  have XW := Lib.hid (BoxD.new hr5)
  clear hr5 hB5 hal
  go_wp2_with fail
  clear u6 f6 l6
  generalize w5.alloc (.cells #[.slice Ac5 W.cells.length nc5, .slice Ak5 W.cache.length nk5, .int .i64 W.reqs, .int .i64 W.left] 27) = w5s at *
  generalize w5.heap.size = bW at *
  refine (tflush_any _ d w5s noM XI.out.rv (noMok _) hd1 hd2).mono ?_
  rw [hE3.out]
  try dsimp only
  rintro q w7 ⟨r7, rfl, hr7, hB7⟩
  obtain ⟨Ac7, nc7, Ak7, nk7, rfl⟩ := dis_form hr7
  have hal := (Below.refl w7.heap.size w7).alloc (Nat.le_refl _) (.cells #[.slice Ac7 L.cells.length nc7, .slice Ak7 L.cache.length nk7, .int .i64 L.reqs, .int .i64 L.left] 27)
  replace X0 := Lib.hid (BoxD.below X0.out (hB7))
  replace XI := Lib.hid (BoxD.below XI.out (hB7))
  replace XN := Lib.hid (BoxD.below XN.out (hB7))
  replace SX := Lib.hid (SlR.mono SX.out (Keep.below (hB7)))
  replace B := Lib.hid (upx B.out (hB7))
  replace XR := Lib.hid (BoxD.below XR.out (hB7))
  replace SR := Lib.hid (SlR.mono SR.out (Keep.below (hB7)))
  replace XW := Lib.hid (BoxD.below XW.out (hB7))
  obtain ⟨u8, f8, l8⟩ := XI.out.blk.all
  replace X0 := Lib.hid (BoxD.below X0.out (hal))
  replace XI := Lib.hid (BoxD.below XI.out (hal))
  replace XN := Lib.hid (BoxD.below XN.out (hal))
  replace SX := Lib.hid (SlR.mono SX.out (Keep.below (hal)))
  replace B := Lib.hid (upx B.out (hal))
  replace XR := Lib.hid (BoxD.below XR.out (hal))
  replace SR := Lib.hid (SlR.mono SR.out (Keep.below (hal)))
  replace XW := Lib.hid (BoxD.below XW.out (hal))
  have XL := Lib.hid (BoxD.new hr7)
  clear hr7 hB7 hal
  go_wp2_with fail
  clear u8 f8 l8
  generalize w7.alloc (.cells #[.slice Ac7 L.cells.length nc7, .slice Ak7 L.cache.length nk7, .int .i64 L.reqs, .int .i64 L.left] 27) = w7s at *
  generalize w7.heap.size = bL at *
  refine (tcrash_any _ d keep w7s noM XI.out.rv (noMok _) hd1 hd2 hk63).mono ?_
  rw [hE4.out]
  try dsimp only
  rintro q w9 ⟨r9, rfl, hr9, hB9⟩
  obtain ⟨Ac9, nc9, Ak9, nk9, rfl⟩ := dis_form hr9
  have hal := (Below.refl w9.heap.size w9).alloc (Nat.le_refl _) (.cells #[.slice Ac9 C.cells.length nc9, .slice Ak9 C.cache.length nk9, .int .i64 C.reqs, .int .i64 C.left] 27)
  replace X0 := Lib.hid (BoxD.below X0.out (hB9))
  replace XI := Lib.hid (BoxD.below XI.out (hB9))
  replace XN := Lib.hid (BoxD.below XN.out (hB9))
  replace SX := Lib.hid (SlR.mono SX.out (Keep.below (hB9)))
  replace B := Lib.hid (upx B.out (hB9))
  replace XR := Lib.hid (BoxD.below XR.out (hB9))
  replace SR := Lib.hid (SlR.mono SR.out (Keep.below (hB9)))
  replace XW := Lib.hid (BoxD.below XW.out (hB9))
  replace XL := Lib.hid (BoxD.below XL.out (hB9))
  obtain ⟨u10, f10, l10⟩ := XI.out.blk.all
  replace X0 := Lib.hid (BoxD.below X0.out (hal))
  replace XI := Lib.hid (BoxD.below XI.out (hal))
  replace XN := Lib.hid (BoxD.below XN.out (hal))
  replace SX := Lib.hid (SlR.mono SX.out (Keep.below (hal)))
  replace B := Lib.hid (upx B.out (hal))
  replace XR := Lib.hid (BoxD.below XR.out (hal))
  replace SR := Lib.hid (SlR.mono SR.out (Keep.below (hal)))
  replace XW := Lib.hid (BoxD.below XW.out (hal))
  replace XL := Lib.hid (BoxD.below XL.out (hal))
  have XC := Lib.hid (BoxD.new hr9)
  clear hr9 hB9 hal
  go_wp2_with fail
  clear u10 f10 l10
  generalize w9.alloc (.cells #[.slice Ac9 C.cells.length nc9, .slice Ak9 C.cache.length nk9, .int .i64 C.reqs, .int .i64 C.left] 27) = w9s at *
  generalize w9.heap.size = bC at *
  refine (fault_any _ d kind a fr bit bit w9s noM XI.out.rv (noMok _) hd1 hd2).mono ?_
  rw [hE5.out]
  try dsimp only
  rintro q w11 ⟨r11, rfl, hr11, hB11⟩
  obtain ⟨Ac11, nc11, Ak11, nk11, rfl⟩ := dis_form hr11
  have hal := (Below.refl w11.heap.size w11).alloc (Nat.le_refl _) (.cells #[.slice Ac11 U.cells.length nc11, .slice Ak11 U.cache.length nk11, .int .i64 U.reqs, .int .i64 U.left] 27)
  replace X0 := Lib.hid (BoxD.below X0.out (hB11))
  replace XI := Lib.hid (BoxD.below XI.out (hB11))
  replace XN := Lib.hid (BoxD.below XN.out (hB11))
  replace SX := Lib.hid (SlR.mono SX.out (Keep.below (hB11)))
  replace B := Lib.hid (upx B.out (hB11))
  replace XR := Lib.hid (BoxD.below XR.out (hB11))
  replace SR := Lib.hid (SlR.mono SR.out (Keep.below (hB11)))
  replace XW := Lib.hid (BoxD.below XW.out (hB11))
  replace XL := Lib.hid (BoxD.below XL.out (hB11))
  replace XC := Lib.hid (BoxD.below XC.out (hB11))
  obtain ⟨u12, f12, l12⟩ := XI.out.blk.all
  obtain ⟨u13, f13, l13⟩ := X0.out.blk.all
  replace X0 := Lib.hid (BoxD.below X0.out (hal))
  replace XI := Lib.hid (BoxD.below XI.out (hal))
  replace XN := Lib.hid (BoxD.below XN.out (hal))
  replace SX := Lib.hid (SlR.mono SX.out (Keep.below (hal)))
  replace B := Lib.hid (upx B.out (hal))
  replace XR := Lib.hid (BoxD.below XR.out (hal))
  replace SR := Lib.hid (SlR.mono SR.out (Keep.below (hal)))
  replace XW := Lib.hid (BoxD.below XW.out (hal))
  replace XL := Lib.hid (BoxD.below XL.out (hal))
  replace XC := Lib.hid (BoxD.below XC.out (hal))
  have XU := Lib.hid (BoxD.new hr11)
  clear hr11 hB11 hal
  go_wp2_with fail
  clear u12 f12 l12 u13 f13 l13
  generalize w11.alloc (.cells #[.slice Ac11 U.cells.length nc11, .slice Ak11 U.cache.length nk11, .int .i64 U.reqs, .int .i64 U.left] 27) = w11s at *
  generalize w11.heap.size = bU at *
  refine (disk_any _ _ d d _ _ _ XI.out.rv X0.out.rv hs.out).mono ?_
  rw [show decide (d = d) = true by simp]
  rintro q w14 ⟨rfl, hB14⟩
  replace X0 := Lib.hid (BoxD.below X0.out (hB14))
  replace XI := Lib.hid (BoxD.below XI.out (hB14))
  replace XN := Lib.hid (BoxD.below XN.out (hB14))
  replace SX := Lib.hid (SlR.mono SX.out (Keep.below (hB14)))
  replace B := Lib.hid (upx B.out (hB14))
  replace XR := Lib.hid (BoxD.below XR.out (hB14))
  replace SR := Lib.hid (SlR.mono SR.out (Keep.below (hB14)))
  replace XW := Lib.hid (BoxD.below XW.out (hB14))
  replace XL := Lib.hid (BoxD.below XL.out (hB14))
  replace XC := Lib.hid (BoxD.below XC.out (hB14))
  replace XU := Lib.hid (BoxD.below XU.out (hB14))
  obtain ⟨u15, f15, l15⟩ := X0.out.blk.all
  clear hB14
  go_wp2_with fail
  clear u15 f15 l15
  refine (right_any _ d w14 noM X0.out.rv).mono ?_
  rintro q w16 ⟨rfl, hB16⟩
  replace X0 := Lib.hid (BoxD.below X0.out (hB16))
  replace XI := Lib.hid (BoxD.below XI.out (hB16))
  replace XN := Lib.hid (BoxD.below XN.out (hB16))
  replace SX := Lib.hid (SlR.mono SX.out (Keep.below (hB16)))
  replace B := Lib.hid (upx B.out (hB16))
  replace XR := Lib.hid (BoxD.below XR.out (hB16))
  replace SR := Lib.hid (SlR.mono SR.out (Keep.below (hB16)))
  replace XW := Lib.hid (BoxD.below XW.out (hB16))
  replace XL := Lib.hid (BoxD.below XL.out (hB16))
  replace XC := Lib.hid (BoxD.below XC.out (hB16))
  replace XU := Lib.hid (BoxD.below XU.out (hB16))
  obtain ⟨u17, f17, l17⟩ := XI.out.blk.all
  obtain ⟨u18, f18, l18⟩ := X0.out.blk.all
  clear hB16
  have HD := Lib.hid hD
  clear hD
  have OD := Lib.hid (okD_iff.1 HD.out)
  have hF1 : flushT d = flushD d := by simp [flushT, HD.out]
  have hFl := Lib.hid (hF1.symm.trans hE3.out)
  have hsL := Lib.hid (show smD L by have := OD.out.flush; rw [hFl.out] at this; exact this.sm)
  clear hF1 hE3
  rw [HD.out]
  go_wp2_with fail
  refine (check_any _ d _ noM XI.out.rv hd1 hd2).mono ?_
  rw [chkI_t HD.out]
  rintro q wc ⟨rfl, hBc⟩
  replace X0 := Lib.hid (BoxD.below X0.out (hBc))
  replace XI := Lib.hid (BoxD.below XI.out (hBc))
  replace XN := Lib.hid (BoxD.below XN.out (hBc))
  replace SX := Lib.hid (SlR.mono SX.out (Keep.below (hBc)))
  replace B := Lib.hid (upx B.out (hBc))
  replace XR := Lib.hid (BoxD.below XR.out (hBc))
  replace SR := Lib.hid (SlR.mono SR.out (Keep.below (hBc)))
  replace XW := Lib.hid (BoxD.below XW.out (hBc))
  replace XL := Lib.hid (BoxD.below XL.out (hBc))
  replace XC := Lib.hid (BoxD.below XC.out (hBc))
  replace XU := Lib.hid (BoxD.below XU.out (hBc))
  clear hBc
  have hR1 : readT d a = (noD, [], 1) := by rw [readT, if_neg (by rw [okT_is HD.out]; simp only [decide_eq_true_eq]; omega)]
  obtain rfl : e = 1 := (congrArg (fun p => p.2.2) hE1.out).symm.trans (congrArg (fun p => p.2.2) hR1)
  obtain rfl : xx = [] := (congrArg (fun p => p.2.1) hE1.out).symm.trans (congrArg (fun p => p.2.1) hR1)
  have hRn : Hid (R = noD) := Lib.hid ((congrArg Prod.fst hE1.out).symm.trans (congrArg Prod.fst hR1))
  clear hR1 hE1
  have hW1 : writeT d a x = (noD, 1) := by rw [writeT, if_neg (by rw [okT_is HD.out]; simp only [Bool.and_eq_true, decide_eq_true_eq]; omega)]
  obtain rfl : f = 1 := (congrArg Prod.snd hE2.out).symm.trans (congrArg Prod.snd hW1)
  have hWn : Hid (W = noD) := Lib.hid ((congrArg Prod.fst hE2.out).symm.trans (congrArg Prod.fst hW1))
  clear hW1 hE2
  obtain ⟨u35, f35, l35⟩ := X0.out.blk.all
  go_wp2_with fail
  clear u35 f35 l35
  refine (rown_any _ d wc noM X0.out.rv (noMok _) hs.out).mono ?_
  rintro q w36 ⟨bx, vc, vk, rfl, hy, hBy⟩
  obtain ⟨Ay, ny, rfl⟩ := hy.cells.form
  obtain ⟨Az, nz, rfl⟩ := hy.cache.form
  replace X0 := Lib.hid (BoxD.below X0.out (hBy))
  replace XI := Lib.hid (BoxD.below XI.out (hBy))
  replace XN := Lib.hid (BoxD.below XN.out (hBy))
  replace SX := Lib.hid (SlR.mono SX.out (Keep.below (hBy)))
  replace B := Lib.hid (upx B.out (hBy))
  replace XR := Lib.hid (BoxD.below XR.out (hBy))
  replace SR := Lib.hid (SlR.mono SR.out (Keep.below (hBy)))
  replace XW := Lib.hid (BoxD.below XW.out (hBy))
  replace XL := Lib.hid (BoxD.below XL.out (hBy))
  replace XC := Lib.hid (BoxD.below XC.out (hBy))
  replace XU := Lib.hid (BoxD.below XU.out (hBy))
  clear hy hBy
  obtain ⟨u37, f37, l37⟩ := XR.out.blk.all
  obtain ⟨u38, f38, l38⟩ := XN.out.blk.all
  go_wp2_with fail
  clear u37 f37 l37 u38 f38 l38
  refine (disk_any _ _ R noD _ _ _ XR.out.rv XN.out.rv (by rw [hRn.out]; exact smD_no)).mono ?_
  rw [show decide (R = noD) = true by simp [hRn.out]]
  rintro q w39 ⟨rfl, hB39⟩
  replace X0 := Lib.hid (BoxD.below X0.out (hB39))
  replace XI := Lib.hid (BoxD.below XI.out (hB39))
  replace XN := Lib.hid (BoxD.below XN.out (hB39))
  replace SX := Lib.hid (SlR.mono SX.out (Keep.below (hB39)))
  replace B := Lib.hid (upx B.out (hB39))
  replace XR := Lib.hid (BoxD.below XR.out (hB39))
  replace SR := Lib.hid (SlR.mono SR.out (Keep.below (hB39)))
  replace XW := Lib.hid (BoxD.below XW.out (hB39))
  replace XL := Lib.hid (BoxD.below XL.out (hB39))
  replace XC := Lib.hid (BoxD.below XC.out (hB39))
  replace XU := Lib.hid (BoxD.below XU.out (hB39))
  clear hB39
  obtain ⟨u40, f40, l40⟩ := X0.out.blk.all
  go_wp2_with fail
  clear u40 f40 l40
  refine (rown_any _ d w39 noM X0.out.rv (noMok _) hs.out).mono ?_
  rintro q w41 ⟨bx, vc, vk, rfl, hy, hBy⟩
  obtain ⟨Ay, ny, rfl⟩ := hy.cells.form
  obtain ⟨Az, nz, rfl⟩ := hy.cache.form
  replace X0 := Lib.hid (BoxD.below X0.out (hBy))
  replace XI := Lib.hid (BoxD.below XI.out (hBy))
  replace XN := Lib.hid (BoxD.below XN.out (hBy))
  replace SX := Lib.hid (SlR.mono SX.out (Keep.below (hBy)))
  replace B := Lib.hid (upx B.out (hBy))
  replace XR := Lib.hid (BoxD.below XR.out (hBy))
  replace SR := Lib.hid (SlR.mono SR.out (Keep.below (hBy)))
  replace XW := Lib.hid (BoxD.below XW.out (hBy))
  replace XL := Lib.hid (BoxD.below XL.out (hBy))
  replace XC := Lib.hid (BoxD.below XC.out (hBy))
  replace XU := Lib.hid (BoxD.below XU.out (hBy))
  clear hy hBy
  obtain ⟨u42, f42, l42⟩ := XW.out.blk.all
  obtain ⟨u43, f43, l43⟩ := XN.out.blk.all
  go_wp2_with fail
  clear u42 f42 l42 u43 f43 l43
  refine (disk_any _ _ W noD _ _ _ XW.out.rv XN.out.rv (by rw [hWn.out]; exact smD_no)).mono ?_
  rw [show decide (W = noD) = true by simp [hWn.out]]
  rintro q w44 ⟨rfl, hB44⟩
  replace X0 := Lib.hid (BoxD.below X0.out (hB44))
  replace XI := Lib.hid (BoxD.below XI.out (hB44))
  replace XN := Lib.hid (BoxD.below XN.out (hB44))
  replace SX := Lib.hid (SlR.mono SX.out (Keep.below (hB44)))
  replace B := Lib.hid (upx B.out (hB44))
  replace XR := Lib.hid (BoxD.below XR.out (hB44))
  replace SR := Lib.hid (SlR.mono SR.out (Keep.below (hB44)))
  replace XW := Lib.hid (BoxD.below XW.out (hB44))
  replace XL := Lib.hid (BoxD.below XL.out (hB44))
  replace XC := Lib.hid (BoxD.below XC.out (hB44))
  replace XU := Lib.hid (BoxD.below XU.out (hB44))
  clear hB44
  obtain ⟨u45, f45, l45⟩ := X0.out.blk.all
  go_wp2_with fail
  clear u45 f45 l45
  refine (rown_any _ d w44 noM X0.out.rv (noMok _) hs.out).mono ?_
  rintro q w46 ⟨bx, vc, vk, rfl, hy, hBy⟩
  obtain ⟨Ay, ny, rfl⟩ := hy.cells.form
  obtain ⟨Az, nz, rfl⟩ := hy.cache.form
  have Y0 := Lib.hid hy
  have BY := Lib.hid hBy
  clear hy hBy
  go_wp2_with fail
  refine (rflush_any w46 noM w44.heap.size bx _ _ d Y0.out BY.out.size (noMok _) OD.out).mono ?_
  rw [hFl.out]
  try dsimp only
  rintro q w47 ⟨rfl, vk2, hst⟩
  obtain ⟨Az2, nz2, rfl⟩ := hst.drv.cache.form
  have hBt := BY.out.trans hst.below
  have Y := Lib.hid hst.drv
  have hyb := Lib.hid hBt.size
  replace X0 := Lib.hid (BoxD.below X0.out (hBt))
  replace XI := Lib.hid (BoxD.below XI.out (hBt))
  replace XN := Lib.hid (BoxD.below XN.out (hBt))
  replace SX := Lib.hid (SlR.mono SX.out (Keep.below (hBt)))
  replace B := Lib.hid (upx B.out (hBt))
  replace XR := Lib.hid (BoxD.below XR.out (hBt))
  replace SR := Lib.hid (SlR.mono SR.out (Keep.below (hBt)))
  replace XW := Lib.hid (BoxD.below XW.out (hBt))
  replace XL := Lib.hid (BoxD.below XL.out (hBt))
  replace XC := Lib.hid (BoxD.below XC.out (hBt))
  replace XU := Lib.hid (BoxD.below XU.out (hBt))
  clear hBt hst Y0 BY
  go_wp2_with fail
  have hgg : (g != g) = false := by simp
  have hdr := below_drew w47
  replace X0 := Lib.hid (BoxD.below X0.out (hdr))
  replace XI := Lib.hid (BoxD.below XI.out (hdr))
  replace XN := Lib.hid (BoxD.below XN.out (hdr))
  replace SX := Lib.hid (SlR.mono SX.out (Keep.below (hdr)))
  replace B := Lib.hid (upx B.out (hdr))
  replace XR := Lib.hid (BoxD.below XR.out (hdr))
  replace SR := Lib.hid (SlR.mono SR.out (Keep.below (hdr)))
  replace XW := Lib.hid (BoxD.below XW.out (hdr))
  replace XL := Lib.hid (BoxD.below XL.out (hdr))
  replace XC := Lib.hid (BoxD.below XC.out (hdr))
  replace XU := Lib.hid (BoxD.below XU.out (hdr))
  replace Y := Lib.hid (Y.out.belowd hdr hyb.out).drv
  have hS := Lib.hid (show (∀ i, w47.drew.cell? ⟨bL, i, none⟩ = #[Value.slice Ac7 L.cells.length nc7, .slice Ak7 L.cache.length nk7, .int .i64 L.reqs, .int .i64 L.left][i]?) ∧ (∀ i, w47.drew.cell? ⟨bx, i, none⟩ = #[Value.slice Ay d.cells.length ny, .slice Az2 L.cache.length nz2, .int .i64 L.reqs, .int .i64 L.left][i]?) from ⟨XL.out.blk.cell, Y.out.blk.cell⟩)
  clear hdr hyb
  refine rp_enter [4, 8] (fun w' => (∀ i, w'.cell? ⟨bL, i, none⟩ = #[Value.slice Ac7 L.cells.length nc7, .slice Ak7 L.cache.length nk7, .int .i64 L.reqs, .int .i64 L.left][i]?) ∧ (∀ i, w'.cell? ⟨bx, i, none⟩ = #[Value.slice Ay d.cells.length ny, .slice Az2 L.cache.length nz2, .int .i64 L.reqs, .int .i64 L.left][i]?)) (by kernel_rfl) ?_
  generalize w47.drew = wd48 at *
  apply rp_pure 0 rfl (by kernel_rfl) (fun _ _ _ h => h) rfl
  · (intro W; go_simp; try rfl)
  · (go_simp; try rfl)
  apply rp_pure 1 rfl (by kernel_rfl) (fun _ _ _ h => h) rfl
  · (intro W; go_simp; try rfl)
  · (go_simp; try rfl)
  apply rp_pure 2 rfl (by kernel_rfl) (fun _ _ _ h => h) rfl
  · (intro W; go_simp; try rfl)
  · (go_simp; try rfl)
  apply rp_pure 3 rfl (by kernel_rfl) (fun _ _ _ h => h) rfl
  · (intro W; go_simp; try rfl)
  · (go_simp; try rfl)
  apply rp_take 4 rfl (by kernel_rfl) (fun _ _ _ h => h) (hS.out) rfl
  · (rintro W ⟨s0, s1⟩; go_simp; try rfl)
  · (go_simp; try rfl)
  apply rp_pure 5 rfl (by kernel_rfl) (fun _ _ _ h => h) rfl
  · (intro W; go_simp; try rfl)
  · (go_simp; try rfl)
  apply rp_pure 6 rfl (by kernel_rfl) (fun _ _ _ h => h) rfl
  · (intro W; go_simp; try rfl)
  · (go_simp; try rfl)
  apply rp_pure 7 rfl (by kernel_rfl) (fun _ _ _ h => h) rfl
  · (intro W; go_simp; try rfl)
  · (go_simp; try rfl)
  apply rp_take 8 rfl (by kernel_rfl) (fun _ _ _ h => h) (hS.out) rfl
  · (rintro W ⟨s0, s1⟩; go_simp; try rfl)
  · (go_simp; try rfl)
  refine rp_only 9 (by kernel_rfl) rfl (fun K hK => ?_)
  go_simp
  refine (disk_any _ _ L L _ _ _ XL.out.rv (Y.out.rv (fun _ _ h => h)) hsL.out).mono ?_
  rw [show decide (L = L) = true by simp]
  rintro q w49 ⟨rfl, hB49⟩
  have hS2 := Lib.hid (show (∀ i, w49.cell? ⟨bL, i, none⟩ = #[Value.slice Ac7 L.cells.length nc7, .slice Ak7 L.cache.length nk7, .int .i64 L.reqs, .int .i64 L.left][i]?) ∧ (∀ i, w49.cell? ⟨bx, i, none⟩ = #[Value.slice Ay d.cells.length ny, .slice Az2 L.cache.length nz2, .int .i64 L.reqs, .int .i64 L.left][i]?) from ⟨(BoxD.below XL.out hB49).blk.cell, (Y.out.blk.below hB49).cell⟩)
  replace X0 := Lib.hid (BoxD.below X0.out (hB49))
  replace XI := Lib.hid (BoxD.below XI.out (hB49))
  replace XN := Lib.hid (BoxD.below XN.out (hB49))
  replace SX := Lib.hid (SlR.mono SX.out (Keep.below (hB49)))
  replace B := Lib.hid (upx B.out (hB49))
  replace XR := Lib.hid (BoxD.below XR.out (hB49))
  replace SR := Lib.hid (SlR.mono SR.out (Keep.below (hB49)))
  replace XW := Lib.hid (BoxD.below XW.out (hB49))
  replace XL := Lib.hid (BoxD.below XL.out (hB49))
  replace XC := Lib.hid (BoxD.below XC.out (hB49))
  replace XU := Lib.hid (BoxD.below XU.out (hB49))
  clear hB49 hS Y
  refine hK _ _ ⟨fun _ _ => hS2.out, ?_⟩; clear hK K
  apply rp_pure 10 rfl (by kernel_rfl) (fun _ _ _ h => h) rfl
  · (intro W; go_simp; try rfl)
  · (go_simp; try rfl)
  apply rp_pure 11 rfl (by kernel_rfl) (fun _ _ _ h => h) rfl
  · (intro W; go_simp; try rfl)
  · (go_simp; try rfl)
  refine rp_done (by kernel_rfl) ?_
  clear hS2
  by_cases hk : 0 ≤ keep
  · clear hgg
    have hC1 : crashT d keep = (crashD d keep, 0) := by simp [crashT, HD.out, hk]
    obtain rfl : h = 0 := (congrArg Prod.snd hE4.out).symm.trans (congrArg Prod.snd hC1)
    have hCc0 : crashD d keep = C := (congrArg Prod.fst hC1).symm.trans (congrArg Prod.fst hE4.out)
    have hsC := Lib.hid (show smD C by rw [← hCc0]; exact OD.out.crash.sm)
    have hCc := Lib.hid hCc0
    have hk' : ¬ keep < 0 := by omega
    clear hC1 hE4 hCc0
    obtain ⟨u50, f50, l50⟩ := X0.out.blk.all
    go_wp2_with fail
    clear u50 f50 l50
    refine (rown_any _ d w49 noM X0.out.rv (noMok _) hs.out).mono ?_
    rintro q w51 ⟨bx, vc, vk, rfl, hy, hBy⟩
    obtain ⟨Ay, ny, rfl⟩ := hy.cells.form
    obtain ⟨Az, nz, rfl⟩ := hy.cache.form
    have Y0 := Lib.hid hy
    have BY := Lib.hid hBy
    clear hy hBy
    go_wp2_with fail
    refine (rcrash_any w51 noM w49.heap.size bx _ _ d keep Y0.out BY.out.size (noMok _) OD.out).mono ?_
    rw [hCc.out]
    try dsimp only
    rintro q w52 ⟨rfl, vk2, hst⟩
    obtain ⟨Az2, nz2, rfl⟩ := hst.drv.cache.form
    have hBt := BY.out.trans hst.below
    have Y := Lib.hid hst.drv
    have hyb := Lib.hid hBt.size
    replace X0 := Lib.hid (BoxD.below X0.out (hBt))
    replace XI := Lib.hid (BoxD.below XI.out (hBt))
    replace XN := Lib.hid (BoxD.below XN.out (hBt))
    replace SX := Lib.hid (SlR.mono SX.out (Keep.below (hBt)))
    replace B := Lib.hid (upx B.out (hBt))
    replace XR := Lib.hid (BoxD.below XR.out (hBt))
    replace SR := Lib.hid (SlR.mono SR.out (Keep.below (hBt)))
    replace XW := Lib.hid (BoxD.below XW.out (hBt))
    replace XL := Lib.hid (BoxD.below XL.out (hBt))
    replace XC := Lib.hid (BoxD.below XC.out (hBt))
    replace XU := Lib.hid (BoxD.below XU.out (hBt))
    clear hBt hst Y0 BY
    go_wp2_with fail
    have hdr := below_drew w52
    replace X0 := Lib.hid (BoxD.below X0.out (hdr))
    replace XI := Lib.hid (BoxD.below XI.out (hdr))
    replace XN := Lib.hid (BoxD.below XN.out (hdr))
    replace SX := Lib.hid (SlR.mono SX.out (Keep.below (hdr)))
    replace B := Lib.hid (upx B.out (hdr))
    replace XR := Lib.hid (BoxD.below XR.out (hdr))
    replace SR := Lib.hid (SlR.mono SR.out (Keep.below (hdr)))
    replace XW := Lib.hid (BoxD.below XW.out (hdr))
    replace XL := Lib.hid (BoxD.below XL.out (hdr))
    replace XC := Lib.hid (BoxD.below XC.out (hdr))
    replace XU := Lib.hid (BoxD.below XU.out (hdr))
    replace Y := Lib.hid (Y.out.belowd hdr hyb.out).drv
    have hS := Lib.hid (show (∀ i, w52.drew.cell? ⟨bC, i, none⟩ = #[Value.slice Ac9 C.cells.length nc9, .slice Ak9 C.cache.length nk9, .int .i64 C.reqs, .int .i64 C.left][i]?) ∧ (∀ i, w52.drew.cell? ⟨bx, i, none⟩ = #[Value.slice Ay d.cells.length ny, .slice Az2 C.cache.length nz2, .int .i64 C.reqs, .int .i64 C.left][i]?) from ⟨XC.out.blk.cell, Y.out.blk.cell⟩)
    clear hdr hyb
    refine rp_enter [3, 7] (fun w' => (∀ i, w'.cell? ⟨bC, i, none⟩ = #[Value.slice Ac9 C.cells.length nc9, .slice Ak9 C.cache.length nk9, .int .i64 C.reqs, .int .i64 C.left][i]?) ∧ (∀ i, w'.cell? ⟨bx, i, none⟩ = #[Value.slice Ay d.cells.length ny, .slice Az2 C.cache.length nz2, .int .i64 C.reqs, .int .i64 C.left][i]?)) (by kernel_rfl) ?_
    generalize w52.drew = wd53 at *
    apply rp_pure 0 rfl (by kernel_rfl) (fun _ _ _ h => h) rfl
    · (intro W; go_simp; try rfl)
    · (go_simp; try rfl)
    apply rp_pure 1 rfl (by kernel_rfl) (fun _ _ _ h => h) rfl
    · (intro W; go_simp; try rfl)
    · (go_simp; try rfl)
    apply rp_pure 2 rfl (by kernel_rfl) (fun _ _ _ h => h) rfl
    · (intro W; go_simp; try rfl)
    · (go_simp; try rfl)
    apply rp_take 3 rfl (by kernel_rfl) (fun _ _ _ h => h) (hS.out) rfl
    · (rintro W ⟨s0, s1⟩; go_simp; try rfl)
    · (go_simp; try rfl)
    apply rp_pure 4 rfl (by kernel_rfl) (fun _ _ _ h => h) rfl
    · (intro W; go_simp; try rfl)
    · (go_simp; try rfl)
    apply rp_pure 5 rfl (by kernel_rfl) (fun _ _ _ h => h) rfl
    · (intro W; go_simp; try rfl)
    · (go_simp; try rfl)
    apply rp_pure 6 rfl (by kernel_rfl) (fun _ _ _ h => h) rfl
    · (intro W; go_simp; try rfl)
    · (go_simp; try rfl)
    apply rp_take 7 rfl (by kernel_rfl) (fun _ _ _ h => h) (hS.out) rfl
    · (rintro W ⟨s0, s1⟩; go_simp; try rfl)
    · (go_simp; try rfl)
    refine rp_only 8 (by kernel_rfl) rfl (fun K hK => ?_)
    go_simp
    refine (disk_any _ _ C C _ _ _ XC.out.rv (Y.out.rv (fun _ _ h => h)) hsC.out).mono ?_
    rw [show decide (C = C) = true by simp]
    rintro q w54 ⟨rfl, hB54⟩
    have hS2 := Lib.hid (show (∀ i, w54.cell? ⟨bC, i, none⟩ = #[Value.slice Ac9 C.cells.length nc9, .slice Ak9 C.cache.length nk9, .int .i64 C.reqs, .int .i64 C.left][i]?) ∧ (∀ i, w54.cell? ⟨bx, i, none⟩ = #[Value.slice Ay d.cells.length ny, .slice Az2 C.cache.length nz2, .int .i64 C.reqs, .int .i64 C.left][i]?) from ⟨(BoxD.below XC.out hB54).blk.cell, (Y.out.blk.below hB54).cell⟩)
    replace X0 := Lib.hid (BoxD.below X0.out (hB54))
    replace XI := Lib.hid (BoxD.below XI.out (hB54))
    replace XN := Lib.hid (BoxD.below XN.out (hB54))
    replace SX := Lib.hid (SlR.mono SX.out (Keep.below (hB54)))
    replace B := Lib.hid (upx B.out (hB54))
    replace XR := Lib.hid (BoxD.below XR.out (hB54))
    replace SR := Lib.hid (SlR.mono SR.out (Keep.below (hB54)))
    replace XW := Lib.hid (BoxD.below XW.out (hB54))
    replace XL := Lib.hid (BoxD.below XL.out (hB54))
    replace XC := Lib.hid (BoxD.below XC.out (hB54))
    replace XU := Lib.hid (BoxD.below XU.out (hB54))
    clear hB54 hS Y
    refine hK _ _ ⟨fun _ _ => hS2.out, ?_⟩; clear hK K
    apply rp_pure 9 rfl (by kernel_rfl) (fun _ _ _ h => h) rfl
    · (intro W; go_simp; try rfl)
    · (go_simp; try rfl)
    apply rp_pure 10 rfl (by kernel_rfl) (fun _ _ _ h => h) rfl
    · (intro W; go_simp; try rfl)
    · (go_simp; try rfl)
    refine rp_done (by kernel_rfl) ?_
    clear hS2
    by_cases hz : (rfaultT d kind a fr bit bit).2 = 0
    · have hRT := Lib.hid (show rfaultT d kind a fr bit bit = (U, 0) from Prod.ext ((congrArg Prod.fst hE5.out).symm.trans ((fault_same HD.out kind a fr bit bit).2.1 hz)).symm hz)
      have hsU := Lib.hid (show smD U by have hq := fault_sm OD.out kind a fr bit bit; rw [hE5.out] at hq; exact hq)
      obtain rfl : i = 0 := (congrArg Prod.snd hE5.out).symm.trans ((fault_same HD.out kind a fr bit bit).1.trans hz)
      clear hz hE5
      obtain ⟨u55, f55, l55⟩ := X0.out.blk.all
      go_wp2_with fail
      clear u55 f55 l55
      refine (rown_any _ d w54 noM X0.out.rv (noMok _) hs.out).mono ?_
      rintro q w56 ⟨bx, vc, vk, rfl, hy, hBy⟩
      obtain ⟨Ay, ny, rfl⟩ := hy.cells.form
      obtain ⟨Az, nz, rfl⟩ := hy.cache.form
      have Y0 := Lib.hid hy
      have BY := Lib.hid hBy
      clear hy hBy
      go_wp2_with fail
      refine (rfault_any w56 noM w54.heap.size bx _ _ d kind a fr bit bit Y0.out (Below.size BY.out) (noMok _) OD.out).mono ?_
      rw [hRT.out]
      try dsimp only
      rintro q w57 ⟨rfl, hst⟩
      have hBt := BY.out.trans hst.below
      have Y := Lib.hid hst.drv
      have hyb := Lib.hid hBt.size
      replace X0 := Lib.hid (BoxD.below X0.out (hBt))
      replace XI := Lib.hid (BoxD.below XI.out (hBt))
      replace XN := Lib.hid (BoxD.below XN.out (hBt))
      replace SX := Lib.hid (SlR.mono SX.out (Keep.below (hBt)))
      replace B := Lib.hid (upx B.out (hBt))
      replace XR := Lib.hid (BoxD.below XR.out (hBt))
      replace SR := Lib.hid (SlR.mono SR.out (Keep.below (hBt)))
      replace XW := Lib.hid (BoxD.below XW.out (hBt))
      replace XL := Lib.hid (BoxD.below XL.out (hBt))
      replace XC := Lib.hid (BoxD.below XC.out (hBt))
      replace XU := Lib.hid (BoxD.below XU.out (hBt))
      clear hBt hst Y0 BY
      go_wp2_with fail
      have hdr := below_drew w57
      replace B := Lib.hid (upx B.out (hdr))
      replace XU := Lib.hid (BoxD.below XU.out (hdr))
      replace Y := Lib.hid (Y.out.belowd hdr hyb.out).drv
      have hS := Lib.hid (show (∀ i, w57.drew.cell? ⟨bU, i, none⟩ = #[Value.slice Ac11 U.cells.length nc11, .slice Ak11 U.cache.length nk11, .int .i64 U.reqs, .int .i64 U.left][i]?) ∧ (∀ i, w57.drew.cell? ⟨bx, i, none⟩ = #[Value.slice Ay d.cells.length ny, .slice Az d.cache.length nz, .int .i64 U.reqs, .int .i64 U.left][i]?) from ⟨XU.out.blk.cell, Y.out.blk.cell⟩)
      clear hdr hyb
      refine rp_enter [7, 11] (fun w' => (∀ i, w'.cell? ⟨bU, i, none⟩ = #[Value.slice Ac11 U.cells.length nc11, .slice Ak11 U.cache.length nk11, .int .i64 U.reqs, .int .i64 U.left][i]?) ∧ (∀ i, w'.cell? ⟨bx, i, none⟩ = #[Value.slice Ay d.cells.length ny, .slice Az d.cache.length nz, .int .i64 U.reqs, .int .i64 U.left][i]?)) (by kernel_rfl) ?_
      generalize w57.drew = wd58 at *
      apply rp_pure 0 rfl (by kernel_rfl) (fun _ _ _ h => h) rfl
      · (intro W; go_simp; try rfl)
      · (go_simp; try rfl)
      apply rp_pure 1 rfl (by kernel_rfl) (fun _ _ _ h => h) rfl
      · (intro W; go_simp; try rfl)
      · (go_simp; try rfl)
      apply rp_pure 2 rfl (by kernel_rfl) (fun _ _ _ h => h) rfl
      · (intro W; go_simp; try rfl)
      · (go_simp; try rfl)
      apply rp_pure 3 rfl (by kernel_rfl) (fun _ _ _ h => h) rfl
      · (intro W; go_simp; try rfl)
      · (go_simp; try rfl)
      apply rp_pure 4 rfl (by kernel_rfl) (fun _ _ _ h => h) rfl
      · (intro W; go_simp; try rfl)
      · (go_simp; try rfl)
      apply rp_pure 5 rfl (by kernel_rfl) (fun _ _ _ h => h) rfl
      · (intro W; go_simp; try rfl)
      · (go_simp; try rfl)
      apply rp_pure 6 rfl (by kernel_rfl) (fun _ _ _ h => h) rfl
      · (intro W; go_simp; try rfl)
      · (go_simp; try rfl)
      apply rp_take 7 rfl (by kernel_rfl) (fun _ _ _ h => h) (hS.out) rfl
      · (rintro W ⟨s0, s1⟩; go_simp; try rfl)
      · (go_simp; try rfl)
      apply rp_pure 8 rfl (by kernel_rfl) (fun _ _ _ h => h) rfl
      · (intro W; go_simp; try rfl)
      · (go_simp; try rfl)
      apply rp_pure 9 rfl (by kernel_rfl) (fun _ _ _ h => h) rfl
      · (intro W; go_simp; try rfl)
      · (go_simp; try rfl)
      apply rp_pure 10 rfl (by kernel_rfl) (fun _ _ _ h => h) rfl
      · (intro W; go_simp; try rfl)
      · (go_simp; try rfl)
      apply rp_take 11 rfl (by kernel_rfl) (fun _ _ _ h => h) (hS.out) rfl
      · (rintro W ⟨s0, s1⟩; go_simp; try rfl)
      · (go_simp; try rfl)
      refine rp_only 12 (by kernel_rfl) rfl (fun K hK => ?_)
      go_simp
      refine (disk_any _ _ U U _ _ _ XU.out.rv (Y.out.rv (fun _ _ h => h)) hsU.out).mono ?_
      rw [show decide (U = U) = true by simp]
      rintro q w59 ⟨rfl, hB59⟩
      have hS2 := Lib.hid (show (∀ i, w59.cell? ⟨bU, i, none⟩ = #[Value.slice Ac11 U.cells.length nc11, .slice Ak11 U.cache.length nk11, .int .i64 U.reqs, .int .i64 U.left][i]?) ∧ (∀ i, w59.cell? ⟨bx, i, none⟩ = #[Value.slice Ay d.cells.length ny, .slice Az d.cache.length nz, .int .i64 U.reqs, .int .i64 U.left][i]?) from ⟨(BoxD.below XU.out hB59).blk.cell, (Y.out.blk.below hB59).cell⟩)
      replace B := Lib.hid (upx B.out (hB59))
      replace XU := Lib.hid (BoxD.below XU.out (hB59))
      clear hB59 hS Y
      refine hK _ _ ⟨fun _ _ => hS2.out, ?_⟩; clear hK K
      apply rp_pure 13 rfl (by kernel_rfl) (fun _ _ _ h => h) rfl
      · (intro W; go_simp; try rfl)
      · (go_simp; try rfl)
      apply rp_pure 14 rfl (by kernel_rfl) (fun _ _ _ h => h) rfl
      · (intro W; go_simp; try rfl)
      · (go_simp; try rfl)
      apply rp_pure 15 rfl (by kernel_rfl) (fun _ _ _ h => h) rfl
      · (intro W; go_simp; try rfl)
      · (go_simp; try rfl)
      apply rp_pure 16 rfl (by kernel_rfl) (fun _ _ _ h => h) rfl
      · (intro W; go_simp; try rfl)
      · (go_simp; try rfl)
      apply rp_pure 17 rfl (by kernel_rfl) (fun _ _ _ h => h) rfl
      · (intro W; go_simp; try rfl)
      · (go_simp; try rfl)
      apply rp_pure 18 rfl (by kernel_rfl) (fun _ _ _ h => h) rfl
      · (intro W; go_simp; try rfl)
      · (go_simp; try rfl)
      apply rp_pure 19 rfl (by kernel_rfl) (fun _ _ _ h => h) rfl
      · (intro W; go_simp; try rfl)
      · (go_simp; try rfl)
      apply rp_skip 20 rfl (by kernel_rfl) (fun _ _ _ h => h) rfl
      · (go_simp; try rfl)
      apply rp_skip 21 rfl (by kernel_rfl) (fun _ _ _ h => h) rfl
      · (go_simp; try rfl)
      apply rp_skip 22 rfl (by kernel_rfl) (fun _ _ _ h => h) rfl
      · (go_simp; try rfl)
      apply rp_skip 23 rfl (by kernel_rfl) (fun _ _ _ h => h) rfl
      · (go_simp; try rfl)
      apply rp_pure 24 rfl (by kernel_rfl) (fun _ _ _ h => h) rfl
      · (intro W; go_simp; try rfl)
      · (go_simp; try rfl)
      apply rp_pure 25 rfl (by kernel_rfl) (fun _ _ _ h => h) rfl
      · (intro W; go_simp; try rfl)
      · (go_simp; try rfl)
      refine rp_done (by kernel_rfl) ?_
      clear hS2
      go_wp2_with fail
      refine (wakes_any _).mono ?_
      rintro q w99 ⟨rfl, hB99⟩
      go_wp2
      go_ret
      exact ⟨rfl, upx B.out hB99⟩
    · have hUn : Hid (U = noD) := Lib.hid ((congrArg Prod.fst hE5.out).symm.trans ((fault_same HD.out kind a fr bit bit).2.2 hz))
      have hzi : (rfaultT d kind a fr bit bit).2 = i := ((congrArg Prod.snd hE5.out).symm.trans (fault_same HD.out kind a fr bit bit).1).symm
      rw [hzi] at hz
      have hz2 := Lib.hid hzi
      have hi1 : (i == 0) = false := by simpa using hz
      have hi2 : (i != 0) = true := by simpa using hz
      have hi3 : (i != i) = false := by simp
      clear hz hzi hE5
      obtain ⟨u60, f60, l60⟩ := X0.out.blk.all
      go_wp2_with fail
      clear u60 f60 l60
      refine (rown_any _ d w54 noM X0.out.rv (noMok _) hs.out).mono ?_
      rintro q w61 ⟨bx, vc, vk, rfl, hy, hBy⟩
      obtain ⟨Ay, ny, rfl⟩ := hy.cells.form
      obtain ⟨Az, nz, rfl⟩ := hy.cache.form
      have Y0 := Lib.hid hy
      have BY := Lib.hid hBy
      clear hy hBy
      go_wp2_with fail
      refine (rfault_any w61 noM w54.heap.size bx _ _ d kind a fr bit bit Y0.out BY.out.size (noMok _) OD.out).mono ?_
      rw [hz2.out]
      rintro q w62 ⟨rfl, hst⟩
      have hBt := BY.out.trans hst.below
      replace XU := Lib.hid (BoxD.below XU.out (hBt))
      replace XN := Lib.hid (BoxD.below XN.out (hBt))
      replace B := Lib.hid (upx B.out (hBt))
      clear hBt hst Y0 BY
      go_wp2_with fail
      have hdr := below_drew w62
      replace XU := Lib.hid (BoxD.below XU.out (hdr))
      replace XN := Lib.hid (BoxD.below XN.out (hdr))
      replace B := Lib.hid (upx B.out (hdr))
      have hS := Lib.hid (show (∀ i, w62.drew.cell? ⟨bU, i, none⟩ = #[Value.slice Ac11 U.cells.length nc11, .slice Ak11 U.cache.length nk11, .int .i64 U.reqs, .int .i64 U.left][i]?) ∧ (∀ i, w62.drew.cell? ⟨bN, i, none⟩ = #[Value.slice none 0 0, .slice none 0 0, .int .i64 0, .int .i64 0][i]?) from ⟨XU.out.blk.cell, XN.out.blk.cell⟩)
      clear hdr
      refine rp_enter [20, 21] (fun w' => (∀ i, w'.cell? ⟨bU, i, none⟩ = #[Value.slice Ac11 U.cells.length nc11, .slice Ak11 U.cache.length nk11, .int .i64 U.reqs, .int .i64 U.left][i]?) ∧ (∀ i, w'.cell? ⟨bN, i, none⟩ = #[Value.slice none 0 0, .slice none 0 0, .int .i64 0, .int .i64 0][i]?)) (by kernel_rfl) ?_
      generalize w62.drew = wz at *
      apply rp_pure 0 rfl (by kernel_rfl) (fun _ _ _ h => h) rfl
      · (intro W; go_simp; try rfl)
      · (go_simp; try rfl)
      apply rp_pure 1 rfl (by kernel_rfl) (fun _ _ _ h => h) rfl
      · (intro W; go_simp; try rfl)
      · (go_simp; try rfl)
      apply rp_pure 2 rfl (by kernel_rfl) (fun _ _ _ h => h) rfl
      · (intro W; go_simp; try rfl)
      · (go_simp; try rfl)
      apply rp_pure 3 rfl (by kernel_rfl) (fun _ _ _ h => h) rfl
      · (intro W; go_simp; try rfl)
      · (go_simp; try rfl)
      apply rp_pure 4 rfl (by kernel_rfl) (fun _ _ _ h => h) rfl
      · (intro W; go_simp; try rfl)
      · (go_simp; try rfl)
      apply rp_pure 5 rfl (by kernel_rfl) (fun _ _ _ h => h) rfl
      · (intro W; go_simp; try rfl)
      · (go_simp; try rfl)
      apply rp_pure 6 rfl (by kernel_rfl) (fun _ _ _ h => h) rfl
      · (intro W; go_simp; try rfl)
      · (go_simp; try rfl)
      apply rp_skip 7 rfl (by kernel_rfl) (fun _ _ _ h => h) rfl
      · (go_simp; try rfl)
      apply rp_skip 8 rfl (by kernel_rfl) (fun _ _ _ h => h) rfl
      · (go_simp; try rfl)
      apply rp_skip 9 rfl (by kernel_rfl) (fun _ _ _ h => h) rfl
      · (go_simp; try rfl)
      apply rp_skip 10 rfl (by kernel_rfl) (fun _ _ _ h => h) rfl
      · (go_simp; try rfl)
      apply rp_skip 11 rfl (by kernel_rfl) (fun _ _ _ h => h) rfl
      · (go_simp; try rfl)
      apply rp_skip 12 rfl (by kernel_rfl) (fun _ _ _ h => h) rfl
      · (go_simp; try rfl)
      apply rp_skip 13 rfl (by kernel_rfl) (fun _ _ _ h => h) rfl
      · (go_simp; try rfl)
      apply rp_pure 14 rfl (by kernel_rfl) (fun _ _ _ h => h) rfl
      · (intro W; go_simp; try rfl)
      · (go_simp; try rfl)
      apply rp_pure 15 rfl (by kernel_rfl) (fun _ _ _ h => h) rfl
      · (intro W; go_simp; try rfl)
      · (go_simp; try rfl)
      apply rp_pure 16 rfl (by kernel_rfl) (fun _ _ _ h => h) rfl
      · (intro W; go_simp; try rfl)
      · (go_simp; try rfl)
      apply rp_pure 17 rfl (by kernel_rfl) (fun _ _ _ h => h) rfl
      · (intro W; go_simp; try rfl)
      · (go_simp; try rfl)
      apply rp_pure 18 rfl (by kernel_rfl) (fun _ _ _ h => h) rfl
      · (intro W; go_simp; try rfl)
      · (go_simp; try rfl)
      apply rp_pure 19 rfl (by kernel_rfl) (fun _ _ _ h => h) rfl
      · (intro W; go_simp; try rfl)
      · (go_simp; try rfl)
      apply rp_take 20 rfl (by kernel_rfl) (fun _ _ _ h => h) (hS.out) rfl
      · (rintro W ⟨s0, s1⟩; go_simp; try rfl)
      · (go_simp; try rfl)
      apply rp_take 21 rfl (by kernel_rfl) (fun _ _ _ h => h) (hS.out) rfl
      · (rintro W ⟨s0, s1⟩; go_simp; try rfl)
      · (go_simp; try rfl)
      refine rp_only 22 (by kernel_rfl) rfl (fun K hK => ?_)
      go_simp
      refine (disk_any _ _ U noD _ _ _ XU.out.rv XN.out.rv (by rw [hUn.out]; exact smD_no)).mono ?_
      rw [show decide (U = noD) = true by simp [hUn.out]]
      rintro q w63 ⟨rfl, hB63⟩
      have hS2 := Lib.hid (show (∀ i, w63.cell? ⟨bU, i, none⟩ = #[Value.slice Ac11 U.cells.length nc11, .slice Ak11 U.cache.length nk11, .int .i64 U.reqs, .int .i64 U.left][i]?) ∧ (∀ i, w63.cell? ⟨bN, i, none⟩ = #[Value.slice none 0 0, .slice none 0 0, .int .i64 0, .int .i64 0][i]?) from ⟨(BoxD.below XU.out hB63).blk.cell, (BoxD.below XN.out hB63).blk.cell⟩)
      replace B := Lib.hid (upx B.out (hB63))
      clear hB63 hS
      refine hK _ _ ⟨fun _ _ => hS2.out, ?_⟩; clear hK K
      apply rp_pure 23 rfl (by kernel_rfl) (fun _ _ _ h => h) rfl
      · (intro W; go_simp; try rfl)
      · (go_simp; try rfl)
      apply rp_pure 24 rfl (by kernel_rfl) (fun _ _ _ h => h) rfl
      · (intro W; go_simp; try rfl)
      · (go_simp; try rfl)
      apply rp_pure 25 rfl (by kernel_rfl) (fun _ _ _ h => h) rfl
      · (intro W; go_simp; try rfl)
      · (go_simp; try rfl)
      refine rp_done (by kernel_rfl) ?_
      clear hS2
      go_wp2_with fail
      refine (wakes_any _).mono ?_
      rintro q w99 ⟨rfl, hB99⟩
      go_wp2
      go_ret
      exact ⟨rfl, upx B.out hB99⟩
  · clear hgg
    have hC1 : crashT d keep = (noD, 1) := by simp [crashT, hk]
    obtain rfl : h = 1 := (congrArg Prod.snd hE4.out).symm.trans (congrArg Prod.snd hC1)
    have hCn : Hid (C = noD) := Lib.hid ((congrArg Prod.fst hE4.out).symm.trans (congrArg Prod.fst hC1))
    have hk' : keep < 0 := by omega
    clear hC1 hE4
    obtain ⟨u64, f64, l64⟩ := XC.out.blk.all
    obtain ⟨u65, f65, l65⟩ := XN.out.blk.all
    go_wp2_with fail
    clear u64 f64 l64 u65 f65 l65
    refine (disk_any _ _ C noD _ _ _ XC.out.rv XN.out.rv (by rw [hCn.out]; exact smD_no)).mono ?_
    rw [show decide (C = noD) = true by simp [hCn.out]]
    rintro q w66 ⟨rfl, hB66⟩
    replace X0 := Lib.hid (BoxD.below X0.out (hB66))
    replace XI := Lib.hid (BoxD.below XI.out (hB66))
    replace XN := Lib.hid (BoxD.below XN.out (hB66))
    replace SX := Lib.hid (SlR.mono SX.out (Keep.below (hB66)))
    replace B := Lib.hid (upx B.out (hB66))
    replace XR := Lib.hid (BoxD.below XR.out (hB66))
    replace SR := Lib.hid (SlR.mono SR.out (Keep.below (hB66)))
    replace XW := Lib.hid (BoxD.below XW.out (hB66))
    replace XL := Lib.hid (BoxD.below XL.out (hB66))
    replace XC := Lib.hid (BoxD.below XC.out (hB66))
    replace XU := Lib.hid (BoxD.below XU.out (hB66))
    clear hB66
    by_cases hz : (rfaultT d kind a fr bit bit).2 = 0
    · have hRT := Lib.hid (show rfaultT d kind a fr bit bit = (U, 0) from Prod.ext ((congrArg Prod.fst hE5.out).symm.trans ((fault_same HD.out kind a fr bit bit).2.1 hz)).symm hz)
      have hsU := Lib.hid (show smD U by have hq := fault_sm OD.out kind a fr bit bit; rw [hE5.out] at hq; exact hq)
      obtain rfl : i = 0 := (congrArg Prod.snd hE5.out).symm.trans ((fault_same HD.out kind a fr bit bit).1.trans hz)
      clear hz hE5
      obtain ⟨u67, f67, l67⟩ := X0.out.blk.all
      go_wp2_with fail
      clear u67 f67 l67
      refine (rown_any _ d w66 noM X0.out.rv (noMok _) hs.out).mono ?_
      rintro q w68 ⟨bx, vc, vk, rfl, hy, hBy⟩
      obtain ⟨Ay, ny, rfl⟩ := hy.cells.form
      obtain ⟨Az, nz, rfl⟩ := hy.cache.form
      have Y0 := Lib.hid hy
      have BY := Lib.hid hBy
      clear hy hBy
      go_wp2_with fail
      refine (rfault_any w68 noM w66.heap.size bx _ _ d kind a fr bit bit Y0.out (Below.size BY.out) (noMok _) OD.out).mono ?_
      rw [hRT.out]
      try dsimp only
      rintro q w69 ⟨rfl, hst⟩
      have hBt := BY.out.trans hst.below
      have Y := Lib.hid hst.drv
      have hyb := Lib.hid hBt.size
      replace X0 := Lib.hid (BoxD.below X0.out (hBt))
      replace XI := Lib.hid (BoxD.below XI.out (hBt))
      replace XN := Lib.hid (BoxD.below XN.out (hBt))
      replace SX := Lib.hid (SlR.mono SX.out (Keep.below (hBt)))
      replace B := Lib.hid (upx B.out (hBt))
      replace XR := Lib.hid (BoxD.below XR.out (hBt))
      replace SR := Lib.hid (SlR.mono SR.out (Keep.below (hBt)))
      replace XW := Lib.hid (BoxD.below XW.out (hBt))
      replace XL := Lib.hid (BoxD.below XL.out (hBt))
      replace XC := Lib.hid (BoxD.below XC.out (hBt))
      replace XU := Lib.hid (BoxD.below XU.out (hBt))
      clear hBt hst Y0 BY
      go_wp2_with fail
      have hdr := below_drew w69
      replace B := Lib.hid (upx B.out (hdr))
      replace XU := Lib.hid (BoxD.below XU.out (hdr))
      replace Y := Lib.hid (Y.out.belowd hdr hyb.out).drv
      have hS := Lib.hid (show (∀ i, w69.drew.cell? ⟨bU, i, none⟩ = #[Value.slice Ac11 U.cells.length nc11, .slice Ak11 U.cache.length nk11, .int .i64 U.reqs, .int .i64 U.left][i]?) ∧ (∀ i, w69.drew.cell? ⟨bx, i, none⟩ = #[Value.slice Ay d.cells.length ny, .slice Az d.cache.length nz, .int .i64 U.reqs, .int .i64 U.left][i]?) from ⟨XU.out.blk.cell, Y.out.blk.cell⟩)
      clear hdr hyb
      refine rp_enter [7, 11] (fun w' => (∀ i, w'.cell? ⟨bU, i, none⟩ = #[Value.slice Ac11 U.cells.length nc11, .slice Ak11 U.cache.length nk11, .int .i64 U.reqs, .int .i64 U.left][i]?) ∧ (∀ i, w'.cell? ⟨bx, i, none⟩ = #[Value.slice Ay d.cells.length ny, .slice Az d.cache.length nz, .int .i64 U.reqs, .int .i64 U.left][i]?)) (by kernel_rfl) ?_
      generalize w69.drew = wd70 at *
      apply rp_pure 0 rfl (by kernel_rfl) (fun _ _ _ h => h) rfl
      · (intro W; go_simp; try rfl)
      · (go_simp; try rfl)
      apply rp_pure 1 rfl (by kernel_rfl) (fun _ _ _ h => h) rfl
      · (intro W; go_simp; try rfl)
      · (go_simp; try rfl)
      apply rp_pure 2 rfl (by kernel_rfl) (fun _ _ _ h => h) rfl
      · (intro W; go_simp; try rfl)
      · (go_simp; try rfl)
      apply rp_pure 3 rfl (by kernel_rfl) (fun _ _ _ h => h) rfl
      · (intro W; go_simp; try rfl)
      · (go_simp; try rfl)
      apply rp_pure 4 rfl (by kernel_rfl) (fun _ _ _ h => h) rfl
      · (intro W; go_simp; try rfl)
      · (go_simp; try rfl)
      apply rp_pure 5 rfl (by kernel_rfl) (fun _ _ _ h => h) rfl
      · (intro W; go_simp; try rfl)
      · (go_simp; try rfl)
      apply rp_pure 6 rfl (by kernel_rfl) (fun _ _ _ h => h) rfl
      · (intro W; go_simp; try rfl)
      · (go_simp; try rfl)
      apply rp_take 7 rfl (by kernel_rfl) (fun _ _ _ h => h) (hS.out) rfl
      · (rintro W ⟨s0, s1⟩; go_simp; try rfl)
      · (go_simp; try rfl)
      apply rp_pure 8 rfl (by kernel_rfl) (fun _ _ _ h => h) rfl
      · (intro W; go_simp; try rfl)
      · (go_simp; try rfl)
      apply rp_pure 9 rfl (by kernel_rfl) (fun _ _ _ h => h) rfl
      · (intro W; go_simp; try rfl)
      · (go_simp; try rfl)
      apply rp_pure 10 rfl (by kernel_rfl) (fun _ _ _ h => h) rfl
      · (intro W; go_simp; try rfl)
      · (go_simp; try rfl)
      apply rp_take 11 rfl (by kernel_rfl) (fun _ _ _ h => h) (hS.out) rfl
      · (rintro W ⟨s0, s1⟩; go_simp; try rfl)
      · (go_simp; try rfl)
      refine rp_only 12 (by kernel_rfl) rfl (fun K hK => ?_)
      go_simp
      refine (disk_any _ _ U U _ _ _ XU.out.rv (Y.out.rv (fun _ _ h => h)) hsU.out).mono ?_
      rw [show decide (U = U) = true by simp]
      rintro q w71 ⟨rfl, hB71⟩
      have hS2 := Lib.hid (show (∀ i, w71.cell? ⟨bU, i, none⟩ = #[Value.slice Ac11 U.cells.length nc11, .slice Ak11 U.cache.length nk11, .int .i64 U.reqs, .int .i64 U.left][i]?) ∧ (∀ i, w71.cell? ⟨bx, i, none⟩ = #[Value.slice Ay d.cells.length ny, .slice Az d.cache.length nz, .int .i64 U.reqs, .int .i64 U.left][i]?) from ⟨(BoxD.below XU.out hB71).blk.cell, (Y.out.blk.below hB71).cell⟩)
      replace B := Lib.hid (upx B.out (hB71))
      replace XU := Lib.hid (BoxD.below XU.out (hB71))
      clear hB71 hS Y
      refine hK _ _ ⟨fun _ _ => hS2.out, ?_⟩; clear hK K
      apply rp_pure 13 rfl (by kernel_rfl) (fun _ _ _ h => h) rfl
      · (intro W; go_simp; try rfl)
      · (go_simp; try rfl)
      apply rp_pure 14 rfl (by kernel_rfl) (fun _ _ _ h => h) rfl
      · (intro W; go_simp; try rfl)
      · (go_simp; try rfl)
      apply rp_pure 15 rfl (by kernel_rfl) (fun _ _ _ h => h) rfl
      · (intro W; go_simp; try rfl)
      · (go_simp; try rfl)
      apply rp_pure 16 rfl (by kernel_rfl) (fun _ _ _ h => h) rfl
      · (intro W; go_simp; try rfl)
      · (go_simp; try rfl)
      apply rp_pure 17 rfl (by kernel_rfl) (fun _ _ _ h => h) rfl
      · (intro W; go_simp; try rfl)
      · (go_simp; try rfl)
      apply rp_pure 18 rfl (by kernel_rfl) (fun _ _ _ h => h) rfl
      · (intro W; go_simp; try rfl)
      · (go_simp; try rfl)
      apply rp_pure 19 rfl (by kernel_rfl) (fun _ _ _ h => h) rfl
      · (intro W; go_simp; try rfl)
      · (go_simp; try rfl)
      apply rp_skip 20 rfl (by kernel_rfl) (fun _ _ _ h => h) rfl
      · (go_simp; try rfl)
      apply rp_skip 21 rfl (by kernel_rfl) (fun _ _ _ h => h) rfl
      · (go_simp; try rfl)
      apply rp_skip 22 rfl (by kernel_rfl) (fun _ _ _ h => h) rfl
      · (go_simp; try rfl)
      apply rp_skip 23 rfl (by kernel_rfl) (fun _ _ _ h => h) rfl
      · (go_simp; try rfl)
      apply rp_pure 24 rfl (by kernel_rfl) (fun _ _ _ h => h) rfl
      · (intro W; go_simp; try rfl)
      · (go_simp; try rfl)
      apply rp_pure 25 rfl (by kernel_rfl) (fun _ _ _ h => h) rfl
      · (intro W; go_simp; try rfl)
      · (go_simp; try rfl)
      refine rp_done (by kernel_rfl) ?_
      clear hS2
      go_wp2_with fail
      refine (wakes_any _).mono ?_
      rintro q w99 ⟨rfl, hB99⟩
      go_wp2
      go_ret
      exact ⟨rfl, upx B.out hB99⟩
    · have hUn : Hid (U = noD) := Lib.hid ((congrArg Prod.fst hE5.out).symm.trans ((fault_same HD.out kind a fr bit bit).2.2 hz))
      have hzi : (rfaultT d kind a fr bit bit).2 = i := ((congrArg Prod.snd hE5.out).symm.trans (fault_same HD.out kind a fr bit bit).1).symm
      rw [hzi] at hz
      have hz2 := Lib.hid hzi
      have hi1 : (i == 0) = false := by simpa using hz
      have hi2 : (i != 0) = true := by simpa using hz
      have hi3 : (i != i) = false := by simp
      clear hz hzi hE5
      obtain ⟨u72, f72, l72⟩ := X0.out.blk.all
      go_wp2_with fail
      clear u72 f72 l72
      refine (rown_any _ d w66 noM X0.out.rv (noMok _) hs.out).mono ?_
      rintro q w73 ⟨bx, vc, vk, rfl, hy, hBy⟩
      obtain ⟨Ay, ny, rfl⟩ := hy.cells.form
      obtain ⟨Az, nz, rfl⟩ := hy.cache.form
      have Y0 := Lib.hid hy
      have BY := Lib.hid hBy
      clear hy hBy
      go_wp2_with fail
      refine (rfault_any w73 noM w66.heap.size bx _ _ d kind a fr bit bit Y0.out BY.out.size (noMok _) OD.out).mono ?_
      rw [hz2.out]
      rintro q w74 ⟨rfl, hst⟩
      have hBt := BY.out.trans hst.below
      replace XU := Lib.hid (BoxD.below XU.out (hBt))
      replace XN := Lib.hid (BoxD.below XN.out (hBt))
      replace B := Lib.hid (upx B.out (hBt))
      clear hBt hst Y0 BY
      go_wp2_with fail
      have hdr := below_drew w74
      replace XU := Lib.hid (BoxD.below XU.out (hdr))
      replace XN := Lib.hid (BoxD.below XN.out (hdr))
      replace B := Lib.hid (upx B.out (hdr))
      have hS := Lib.hid (show (∀ i, w74.drew.cell? ⟨bU, i, none⟩ = #[Value.slice Ac11 U.cells.length nc11, .slice Ak11 U.cache.length nk11, .int .i64 U.reqs, .int .i64 U.left][i]?) ∧ (∀ i, w74.drew.cell? ⟨bN, i, none⟩ = #[Value.slice none 0 0, .slice none 0 0, .int .i64 0, .int .i64 0][i]?) from ⟨XU.out.blk.cell, XN.out.blk.cell⟩)
      clear hdr
      refine rp_enter [20, 21] (fun w' => (∀ i, w'.cell? ⟨bU, i, none⟩ = #[Value.slice Ac11 U.cells.length nc11, .slice Ak11 U.cache.length nk11, .int .i64 U.reqs, .int .i64 U.left][i]?) ∧ (∀ i, w'.cell? ⟨bN, i, none⟩ = #[Value.slice none 0 0, .slice none 0 0, .int .i64 0, .int .i64 0][i]?)) (by kernel_rfl) ?_
      generalize w74.drew = wz at *
      apply rp_pure 0 rfl (by kernel_rfl) (fun _ _ _ h => h) rfl
      · (intro W; go_simp; try rfl)
      · (go_simp; try rfl)
      apply rp_pure 1 rfl (by kernel_rfl) (fun _ _ _ h => h) rfl
      · (intro W; go_simp; try rfl)
      · (go_simp; try rfl)
      apply rp_pure 2 rfl (by kernel_rfl) (fun _ _ _ h => h) rfl
      · (intro W; go_simp; try rfl)
      · (go_simp; try rfl)
      apply rp_pure 3 rfl (by kernel_rfl) (fun _ _ _ h => h) rfl
      · (intro W; go_simp; try rfl)
      · (go_simp; try rfl)
      apply rp_pure 4 rfl (by kernel_rfl) (fun _ _ _ h => h) rfl
      · (intro W; go_simp; try rfl)
      · (go_simp; try rfl)
      apply rp_pure 5 rfl (by kernel_rfl) (fun _ _ _ h => h) rfl
      · (intro W; go_simp; try rfl)
      · (go_simp; try rfl)
      apply rp_pure 6 rfl (by kernel_rfl) (fun _ _ _ h => h) rfl
      · (intro W; go_simp; try rfl)
      · (go_simp; try rfl)
      apply rp_skip 7 rfl (by kernel_rfl) (fun _ _ _ h => h) rfl
      · (go_simp; try rfl)
      apply rp_skip 8 rfl (by kernel_rfl) (fun _ _ _ h => h) rfl
      · (go_simp; try rfl)
      apply rp_skip 9 rfl (by kernel_rfl) (fun _ _ _ h => h) rfl
      · (go_simp; try rfl)
      apply rp_skip 10 rfl (by kernel_rfl) (fun _ _ _ h => h) rfl
      · (go_simp; try rfl)
      apply rp_skip 11 rfl (by kernel_rfl) (fun _ _ _ h => h) rfl
      · (go_simp; try rfl)
      apply rp_skip 12 rfl (by kernel_rfl) (fun _ _ _ h => h) rfl
      · (go_simp; try rfl)
      apply rp_skip 13 rfl (by kernel_rfl) (fun _ _ _ h => h) rfl
      · (go_simp; try rfl)
      apply rp_pure 14 rfl (by kernel_rfl) (fun _ _ _ h => h) rfl
      · (intro W; go_simp; try rfl)
      · (go_simp; try rfl)
      apply rp_pure 15 rfl (by kernel_rfl) (fun _ _ _ h => h) rfl
      · (intro W; go_simp; try rfl)
      · (go_simp; try rfl)
      apply rp_pure 16 rfl (by kernel_rfl) (fun _ _ _ h => h) rfl
      · (intro W; go_simp; try rfl)
      · (go_simp; try rfl)
      apply rp_pure 17 rfl (by kernel_rfl) (fun _ _ _ h => h) rfl
      · (intro W; go_simp; try rfl)
      · (go_simp; try rfl)
      apply rp_pure 18 rfl (by kernel_rfl) (fun _ _ _ h => h) rfl
      · (intro W; go_simp; try rfl)
      · (go_simp; try rfl)
      apply rp_pure 19 rfl (by kernel_rfl) (fun _ _ _ h => h) rfl
      · (intro W; go_simp; try rfl)
      · (go_simp; try rfl)
      apply rp_take 20 rfl (by kernel_rfl) (fun _ _ _ h => h) (hS.out) rfl
      · (rintro W ⟨s0, s1⟩; go_simp; try rfl)
      · (go_simp; try rfl)
      apply rp_take 21 rfl (by kernel_rfl) (fun _ _ _ h => h) (hS.out) rfl
      · (rintro W ⟨s0, s1⟩; go_simp; try rfl)
      · (go_simp; try rfl)
      refine rp_only 22 (by kernel_rfl) rfl (fun K hK => ?_)
      go_simp
      refine (disk_any _ _ U noD _ _ _ XU.out.rv XN.out.rv (by rw [hUn.out]; exact smD_no)).mono ?_
      rw [show decide (U = noD) = true by simp [hUn.out]]
      rintro q w75 ⟨rfl, hB75⟩
      have hS2 := Lib.hid (show (∀ i, w75.cell? ⟨bU, i, none⟩ = #[Value.slice Ac11 U.cells.length nc11, .slice Ak11 U.cache.length nk11, .int .i64 U.reqs, .int .i64 U.left][i]?) ∧ (∀ i, w75.cell? ⟨bN, i, none⟩ = #[Value.slice none 0 0, .slice none 0 0, .int .i64 0, .int .i64 0][i]?) from ⟨(BoxD.below XU.out hB75).blk.cell, (BoxD.below XN.out hB75).blk.cell⟩)
      replace B := Lib.hid (upx B.out (hB75))
      clear hB75 hS
      refine hK _ _ ⟨fun _ _ => hS2.out, ?_⟩; clear hK K
      apply rp_pure 23 rfl (by kernel_rfl) (fun _ _ _ h => h) rfl
      · (intro W; go_simp; try rfl)
      · (go_simp; try rfl)
      apply rp_pure 24 rfl (by kernel_rfl) (fun _ _ _ h => h) rfl
      · (intro W; go_simp; try rfl)
      · (go_simp; try rfl)
      apply rp_pure 25 rfl (by kernel_rfl) (fun _ _ _ h => h) rfl
      · (intro W; go_simp; try rfl)
      · (go_simp; try rfl)
      refine rp_done (by kernel_rfl) ?_
      clear hS2
      go_wp2_with fail
      refine (wakes_any _).mono ?_
      rintro q w99 ⟨rfl, hB99⟩
      go_wp2
      go_ret
      exact ⟨rfl, upx B.out hB99⟩
end Go.Proofs.Ytkdjacmabeeceaa
