/-
The law DiskExact, one of its cases: what comes of any reading, writing, flushing, cutting off, fault, of any disk, and the disk behind it, are the page's.
-/
import Derived.Test.YtkdjacmabeeceaaExact1
namespace Go.Proofs.Ytkdjacmabeeceaa
open Go.RowKit
attribute [local go_sem ↓] Go.wp_at_zero Go.wp_at_succ

set_option maxRecDepth 100000 in
set_option maxHeartbeats 64000000 in
theorem exact_none (v vx : Value) (d : Dis) (a keep kind fr bit : Int) (x : List UInt8) (hk63 : keep < 9223372036854775808) (w : World) (h : Rv w noM v d) (hx : SlR w noM vx x) (hD : disB d = false) :
    Calls Try.prog 8 #[v, .int .i64 a, vx, .int .i64 keep, .int .i64 kind, .int .i64 fr, .int .i64 bit] w fun e w' => e = .returned (.bool true) ∧ Below w.heap.size w w' := by
  obtain ⟨Ac0, nc0, Ak0, nk0, rfl⟩ := dis_form h
  obtain ⟨ax, cx, rfl⟩ := hx.form
  have hal := (Below.refl w.heap.size w).alloc (Nat.le_refl _) (.cells #[.slice Ac0 d.cells.length nc0, .slice Ak0 d.cache.length nk0, .int .i64 d.reqs, .int .i64 d.left] 27)
  have B := Lib.hid hal
  have X0 := Lib.hid (BoxD.new h)
  have SX := Lib.hid (SlR.mono hx (Keep.below hal))
  clear h hx hal
  go_enter Try.func8, Try.ntmps8
  go_wp2_with fail
  generalize w.alloc (.cells #[.slice Ac0 d.cells.length nc0, .slice Ak0 d.cache.length nk0, .int .i64 d.reqs, .int .i64 d.left] 27) = w0 at *
  generalize hb0 : w.heap.size = b0 at X0 ⊢
  refine (heavy_any _ d w0 noM X0.out.rv).mono ?_
  rintro e w1 ⟨⟨hb, rfl, hf⟩, hB1⟩
  replace X0 := Lib.hid (BoxD.below X0.out (hB1))
  replace SX := Lib.hid (SlR.mono SX.out (Keep.below (hB1)))
  replace B := Lib.hid (upx B.out (hB1))
  subst hb0
  clear hB1
  cases hb
  case true =>
    go_wp2
    go_ret
    exact ⟨rfl, B.out⟩
  have hs := Lib.hid (hf rfl).small
  clear hf
  by_cases hx2 : x.length ≤ 300
  case neg =>
    have hx2' : (300 : Int) < x.length := by omega
    go_wp2
    go_ret
    exact ⟨rfl, B.out⟩
  have hx2' : ¬ (300 : Int) < x.length := by omega
  have hd1 : d.cells.length ≤ 1000000000 := hs.out.1
  have hd2 : d.cache.length ≤ 1000000000 := hs.out.2.1
  obtain ⟨R, xx, e, hE1⟩ : ∃ R xx e, readT d a = (R, xx, e) := ⟨_, _, _, rfl⟩
  obtain ⟨W, f, hE2⟩ : ∃ W f, writeT d a x = (W, f) := ⟨_, _, rfl⟩
  obtain ⟨L, g, hE3⟩ : ∃ L g, flushT d = (L, g) := ⟨_, _, rfl⟩
  obtain ⟨C, h, hE4⟩ : ∃ C h, crashT d keep = (C, h) := ⟨_, _, rfl⟩
  obtain ⟨U, i, hE5⟩ : ∃ U i, faultT d kind a fr bit bit = (U, i) := ⟨_, _, rfl⟩
  replace hE1 := Lib.hid hE1
  replace hE2 := Lib.hid hE2
  replace hE3 := Lib.hid hE3
  replace hE4 := Lib.hid hE4
  replace hE5 := Lib.hid hE5
  obtain ⟨u1, f1, l1⟩ := X0.out.blk.all
  go_wp2_with fail
  clear u1 f1 l1
  refine (ktwin_any _ d w1 noM X0.out.rv (noMok _) hs.out).mono ?_
  rintro q w2 ⟨r2, rfl, hr2, hB2⟩
  obtain ⟨Ac2, nc2, Ak2, nk2, rfl⟩ := dis_form hr2
  have hal := (Below.refl w2.heap.size w2).alloc (Nat.le_refl _) (.cells #[.slice Ac2 d.cells.length nc2, .slice Ak2 d.cache.length nk2, .int .i64 d.reqs, .int .i64 d.left] 27)
  have hal2 := (Below.refl (w2.alloc (.cells #[.slice Ac2 d.cells.length nc2, .slice Ak2 d.cache.length nk2, .int .i64 d.reqs, .int .i64 d.left] 27)).heap.size (w2.alloc (.cells #[.slice Ac2 d.cells.length nc2, .slice Ak2 d.cache.length nk2, .int .i64 d.reqs, .int .i64 d.left] 27))).alloc (Nat.le_refl _) (.cells #[.slice none 0 0, .slice none 0 0, .int .i64 0, .int .i64 0] 27)
  replace X0 := Lib.hid (BoxD.below X0.out (hB2))
  replace SX := Lib.hid (SlR.mono SX.out (Keep.below (hB2)))
  replace B := Lib.hid (upx B.out (hB2))
  replace X0 := Lib.hid (BoxD.below X0.out (hal))
  replace SX := Lib.hid (SlR.mono SX.out (Keep.below (hal)))
  replace B := Lib.hid (upx B.out (hal))
  replace X0 := Lib.hid (BoxD.below X0.out (hal2))
  replace SX := Lib.hid (SlR.mono SX.out (Keep.below (hal2)))
  replace B := Lib.hid (upx B.out (hal2))
  have XI := Lib.hid (BoxD.below (BoxD.new hr2) hal2)
  have hN := BoxD.new (w := (w2.alloc (.cells #[.slice Ac2 d.cells.length nc2, .slice Ak2 d.cache.length nk2, .int .i64 d.reqs, .int .i64 d.left] 27))) (c := .slice none 0 0) (k := .slice none 0 0) (d := noD) (rv_noD _ _)
  have hsz : (w2.alloc (.cells #[.slice Ac2 d.cells.length nc2, .slice Ak2 d.cache.length nk2, .int .i64 d.reqs, .int .i64 d.left] 27)).heap.size = w2.heap.size + 1 := by simp
  have XN : Hid (BoxD ((w2.alloc (.cells #[.slice Ac2 d.cells.length nc2, .slice Ak2 d.cache.length nk2, .int .i64 d.reqs, .int .i64 d.left] 27)).alloc (.cells #[.slice none 0 0, .slice none 0 0, .int .i64 0, .int .i64 0] 27)) (w2.heap.size + 1) (.slice none 0 0) (.slice none 0 0) noD) := Lib.hid (hsz ▸ hN)
  clear hN hsz hr2 hB2 hal hal2
  go_wp2_with fail
  generalize ((w2.alloc (.cells #[.slice Ac2 d.cells.length nc2, .slice Ak2 d.cache.length nk2, .int .i64 d.reqs, .int .i64 d.left] 27)).alloc (.cells #[.slice none 0 0, .slice none 0 0, .int .i64 0, .int .i64 0] 27)) = w2s at *
  generalize w2.heap.size + 1 = bN at *
  generalize w2.heap.size = bI at *
  refine (tread_any _ d a w2s noM XI.out.rv (noMok _) hd1 hd2).mono ?_
  rw [hE1.out]
  try dsimp only
  rintro q w3 ⟨r3, s3, rfl, hr3, hs3, hB3⟩
  obtain ⟨Ac3, nc3, Ak3, nk3, rfl⟩ := dis_form hr3
  obtain ⟨As3, ns3, rfl⟩ := SlR.form hs3
  have hal := (Below.refl w3.heap.size w3).alloc (Nat.le_refl _) (.cells #[.slice Ac3 R.cells.length nc3, .slice Ak3 R.cache.length nk3, .int .i64 R.reqs, .int .i64 R.left] 27)
  replace X0 := Lib.hid (BoxD.below X0.out (hB3))
  replace XI := Lib.hid (BoxD.below XI.out (hB3))
  replace XN := Lib.hid (BoxD.below XN.out (hB3))
  replace SX := Lib.hid (SlR.mono SX.out (Keep.below (hB3)))
  replace B := Lib.hid (upx B.out (hB3))
  obtain ⟨u4, f4, l4⟩ := XI.out.blk.all
  replace X0 := Lib.hid (BoxD.below X0.out (hal))
  replace XI := Lib.hid (BoxD.below XI.out (hal))
  replace XN := Lib.hid (BoxD.below XN.out (hal))
  replace SX := Lib.hid (SlR.mono SX.out (Keep.below (hal)))
  replace B := Lib.hid (upx B.out (hal))
  have XR := Lib.hid (BoxD.new hr3)
  have SR := Lib.hid (SlR.mono hs3 (Keep.below hal))
  clear hr3 hB3 hal hs3
  go_wp2_with fail
  clear u4 f4 l4
  generalize w3.alloc (.cells #[.slice Ac3 R.cells.length nc3, .slice Ak3 R.cache.length nk3, .int .i64 R.reqs, .int .i64 R.left] 27) = w3s at *
  generalize w3.heap.size = bR at *
  refine (twrite_any _ _ d a x w3s noM XI.out.rv SX.out (noMok _) hd1 hd2 (by omega)).mono ?_
  rw [hE2.out]
  try dsimp only
  rintro q w5 ⟨r5, rfl, hr5, hB5⟩
  obtain ⟨Ac5, nc5, Ak5, nk5, rfl⟩ := dis_form hr5
  have hal := (Below.refl w5.heap.size w5).alloc (Nat.le_refl _) (.cells #[.slice Ac5 W.cells.length nc5, .slice Ak5 W.cache.length nk5, .int .i64 W.reqs, .int .i64 W.left] 27)
  replace X0 := Lib.hid (BoxD.below X0.out (hB5))
  replace XI := Lib.hid (BoxD.below XI.out (hB5))
  replace XN := Lib.hid (BoxD.below XN.out (hB5))
  replace SX := Lib.hid (SlR.mono SX.out (Keep.below (hB5)))
  replace B := Lib.hid (upx B.out (hB5))
  replace XR := Lib.hid (BoxD.below XR.out (hB5))
  replace SR := Lib.hid (SlR.mono SR.out (Keep.below (hB5)))
  obtain ⟨u6, f6, l6⟩ := XI.out.blk.all
  replace X0 := Lib.hid (BoxD.below X0.out (hal))
  replace XI := Lib.hid (BoxD.below XI.out (hal))
  replace XN := Lib.hid (BoxD.below XN.out (hal))
  replace SX := Lib.hid (SlR.mono SX.out (Keep.below (hal)))
  replace B := Lib.hid (upx B.out (hal))
  replace XR := Lib.hid (BoxD.below XR.out (hal))
  replace SR := Lib.hid (SlR.mono SR.out (Keep.below (hal)))
  have XW := Lib.hid (BoxD.new hr5)
  clear hr5 hB5 hal
  go_wp2_with fail
  clear u6 f6 l6
  generalize w5.alloc (.cells #[.slice Ac5 W.cells.length nc5, .slice Ak5 W.cache.length nk5, .int .i64 W.reqs, .int .i64 W.left] 27) = w5s at *
  generalize w5.heap.size = bW at *
  refine (tflush_any _ d w5s noM XI.out.rv (noMok _) hd1 hd2).mono ?_
  rw [hE3.out]
  try dsimp only
  rintro q w7 ⟨r7, rfl, hr7, hB7⟩
  obtain ⟨Ac7, nc7, Ak7, nk7, rfl⟩ := dis_form hr7
  have hal := (Below.refl w7.heap.size w7).alloc (Nat.le_refl _) (.cells #[.slice Ac7 L.cells.length nc7, .slice Ak7 L.cache.length nk7, .int .i64 L.reqs, .int .i64 L.left] 27)
  replace X0 := Lib.hid (BoxD.below X0.out (hB7))
  replace XI := Lib.hid (BoxD.below XI.out (hB7))
  replace XN := Lib.hid (BoxD.below XN.out (hB7))
  replace SX := Lib.hid (SlR.mono SX.out (Keep.below (hB7)))
  replace B := Lib.hid (upx B.out (hB7))
  replace XR := Lib.hid (BoxD.below XR.out (hB7))
  replace SR := Lib.hid (SlR.mono SR.out (Keep.below (hB7)))
  replace XW := Lib.hid (BoxD.below XW.out (hB7))
  obtain ⟨u8, f8, l8⟩ := XI.out.blk.all
  replace X0 := Lib.hid (BoxD.below X0.out (hal))
  replace XI := Lib.hid (BoxD.below XI.out (hal))
  replace XN := Lib.hid (BoxD.below XN.out (hal))
  replace SX := Lib.hid (SlR.mono SX.out (Keep.below (hal)))
  replace B := Lib.hid (upx B.out (hal))
  replace XR := Lib.hid (BoxD.below XR.out (hal))
  replace SR := Lib.hid (SlR.mono SR.out (Keep.below (hal)))
  replace XW := Lib.hid (BoxD.below XW.out (hal))
  have XL := Lib.hid (BoxD.new hr7)
  clear hr7 hB7 hal
  go_wp2_with fail
  clear u8 f8 l8
  generalize w7.alloc (.cells #[.slice Ac7 L.cells.length nc7, .slice Ak7 L.cache.length nk7, .int .i64 L.reqs, .int .i64 L.left] 27) = w7s at *
  generalize w7.heap.size = bL at *
  refine (tcrash_any _ d keep w7s noM XI.out.rv (noMok _) hd1 hd2 hk63).mono ?_
  rw [hE4.out]
  try dsimp only
  rintro q w9 ⟨r9, rfl, hr9, hB9⟩
  obtain ⟨Ac9, nc9, Ak9, nk9, rfl⟩ := dis_form hr9
  have hal := (Below.refl w9.heap.size w9).alloc (Nat.le_refl _) (.cells #[.slice Ac9 C.cells.length nc9, .slice Ak9 C.cache.length nk9, .int .i64 C.reqs, .int .i64 C.left] 27)
  replace X0 := Lib.hid (BoxD.below X0.out (hB9))
  replace XI := Lib.hid (BoxD.below XI.out (hB9))
  replace XN := Lib.hid (BoxD.below XN.out (hB9))
  replace SX := Lib.hid (SlR.mono SX.out (Keep.below (hB9)))
  replace B := Lib.hid (upx B.out (hB9))
  replace XR := Lib.hid (BoxD.below XR.out (hB9))
  replace SR := Lib.hid (SlR.mono SR.out (Keep.below (hB9)))
  replace XW := Lib.hid (BoxD.below XW.out (hB9))
  replace XL := Lib.hid (BoxD.below XL.out (hB9))
  obtain ⟨u10, f10, l10⟩ := XI.out.blk.all
  replace X0 := Lib.hid (BoxD.below X0.out (hal))
  replace XI := Lib.hid (BoxD.below XI.out (hal))
  replace XN := Lib.hid (BoxD.below XN.out (hal))
  replace SX := Lib.hid (SlR.mono SX.out (Keep.below (hal)))
  replace B := Lib.hid (upx B.out (hal))
  replace XR := Lib.hid (BoxD.below XR.out (hal))
  replace SR := Lib.hid (SlR.mono SR.out (Keep.below (hal)))
  replace XW := Lib.hid (BoxD.below XW.out (hal))
  replace XL := Lib.hid (BoxD.below XL.out (hal))
  have XC := Lib.hid (BoxD.new hr9)
  clear hr9 hB9 hal
  go_wp2_with fail
  clear u10 f10 l10
  generalize w9.alloc (.cells #[.slice Ac9 C.cells.length nc9, .slice Ak9 C.cache.length nk9, .int .i64 C.reqs, .int .i64 C.left] 27) = w9s at *
  generalize w9.heap.size = bC at *
  refine (fault_any _ d kind a fr bit bit w9s noM XI.out.rv (noMok _) hd1 hd2).mono ?_
  rw [hE5.out]
  try dsimp only
  rintro q w11 ⟨r11, rfl, hr11, hB11⟩
  obtain ⟨Ac11, nc11, Ak11, nk11, rfl⟩ := dis_form hr11
  have hal := (Below.refl w11.heap.size w11).alloc (Nat.le_refl _) (.cells #[.slice Ac11 U.cells.length nc11, .slice Ak11 U.cache.length nk11, .int .i64 U.reqs, .int .i64 U.left] 27)
  replace X0 := Lib.hid (BoxD.below X0.out (hB11))
  replace XI := Lib.hid (BoxD.below XI.out (hB11))
  replace XN := Lib.hid (BoxD.below XN.out (hB11))
  replace SX := Lib.hid (SlR.mono SX.out (Keep.below (hB11)))
  replace B := Lib.hid (upx B.out (hB11))
  replace XR := Lib.hid (BoxD.below XR.out (hB11))
  replace SR := Lib.hid (SlR.mono SR.out (Keep.below (hB11)))
  replace XW := Lib.hid (BoxD.below XW.out (hB11))
  replace XL := Lib.hid (BoxD.below XL.out (hB11))
  replace XC := Lib.hid (BoxD.below XC.out (hB11))
  obtain ⟨u12, f12, l12⟩ := XI.out.blk.all
  obtain ⟨u13, f13, l13⟩ := X0.out.blk.all
  replace X0 := Lib.hid (BoxD.below X0.out (hal))
  replace XI := Lib.hid (BoxD.below XI.out (hal))
  replace XN := Lib.hid (BoxD.below XN.out (hal))
  replace SX := Lib.hid (SlR.mono SX.out (Keep.below (hal)))
  replace B := Lib.hid (upx B.out (hal))
  replace XR := Lib.hid (BoxD.below XR.out (hal))
  replace SR := Lib.hid (SlR.mono SR.out (Keep.below (hal)))
  replace XW := Lib.hid (BoxD.below XW.out (hal))
  replace XL := Lib.hid (BoxD.below XL.out (hal))
  replace XC := Lib.hid (BoxD.below XC.out (hal))
  have XU := Lib.hid (BoxD.new hr11)
  clear hr11 hB11 hal
  go_wp2_with fail
  clear u12 f12 l12 u13 f13 l13
  generalize w11.alloc (.cells #[.slice Ac11 U.cells.length nc11, .slice Ak11 U.cache.length nk11, .int .i64 U.reqs, .int .i64 U.left] 27) = w11s at *
  generalize w11.heap.size = bU at *
  refine (disk_any _ _ d d _ _ _ XI.out.rv X0.out.rv hs.out).mono ?_
  rw [show decide (d = d) = true by simp]
  rintro q w14 ⟨rfl, hB14⟩
  replace X0 := Lib.hid (BoxD.below X0.out (hB14))
  replace XI := Lib.hid (BoxD.below XI.out (hB14))
  replace XN := Lib.hid (BoxD.below XN.out (hB14))
  replace SX := Lib.hid (SlR.mono SX.out (Keep.below (hB14)))
  replace B := Lib.hid (upx B.out (hB14))
  replace XR := Lib.hid (BoxD.below XR.out (hB14))
  replace SR := Lib.hid (SlR.mono SR.out (Keep.below (hB14)))
  replace XW := Lib.hid (BoxD.below XW.out (hB14))
  replace XL := Lib.hid (BoxD.below XL.out (hB14))
  replace XC := Lib.hid (BoxD.below XC.out (hB14))
  replace XU := Lib.hid (BoxD.below XU.out (hB14))
  obtain ⟨u15, f15, l15⟩ := X0.out.blk.all
  clear hB14
  go_wp2_with fail
  clear u15 f15 l15
  refine (right_any _ d w14 noM X0.out.rv).mono ?_
  rintro q w16 ⟨rfl, hB16⟩
  replace X0 := Lib.hid (BoxD.below X0.out (hB16))
  replace XI := Lib.hid (BoxD.below XI.out (hB16))
  replace XN := Lib.hid (BoxD.below XN.out (hB16))
  replace SX := Lib.hid (SlR.mono SX.out (Keep.below (hB16)))
  replace B := Lib.hid (upx B.out (hB16))
  replace XR := Lib.hid (BoxD.below XR.out (hB16))
  replace SR := Lib.hid (SlR.mono SR.out (Keep.below (hB16)))
  replace XW := Lib.hid (BoxD.below XW.out (hB16))
  replace XL := Lib.hid (BoxD.below XL.out (hB16))
  replace XC := Lib.hid (BoxD.below XC.out (hB16))
  replace XU := Lib.hid (BoxD.below XU.out (hB16))
  obtain ⟨u17, f17, l17⟩ := XI.out.blk.all
  obtain ⟨u18, f18, l18⟩ := X0.out.blk.all
  clear hB16
  have hDf := Lib.hid hD
  clear hD
  rw [hDf.out]
  obtain ⟨p1, p2, p3, p4, p5⟩ := exact_bad hDf.out a x keep kind fr bit
  have p1 := hE1.out.symm.trans p1
  have p2 := hE2.out.symm.trans p2
  have p3 := hE3.out.symm.trans p3
  have p4 := hE4.out.symm.trans p4
  have p5 := hE5.out.symm.trans p5
  simp only [Prod.mk.injEq] at p1 p2 p3 p4 p5
  clear hE1 hE2 hE3 hE4 hE5
  obtain ⟨rfl, rfl, rfl⟩ := p1
  obtain ⟨rfl, rfl⟩ := p2
  obtain ⟨rfl, rfl⟩ := p3
  obtain ⟨rfl, rfl⟩ := p4
  obtain ⟨rfl, rfl⟩ := p5
  go_wp2_with fail
  refine (check_any _ d _ noM XI.out.rv hd1 hd2).mono ?_
  rw [chkI_f hDf.out]
  rintro q w19 ⟨rfl, hB19⟩
  replace X0 := Lib.hid (BoxD.below X0.out (hB19))
  replace XI := Lib.hid (BoxD.below XI.out (hB19))
  replace XN := Lib.hid (BoxD.below XN.out (hB19))
  replace SX := Lib.hid (SlR.mono SX.out (Keep.below (hB19)))
  replace B := Lib.hid (upx B.out (hB19))
  replace XR := Lib.hid (BoxD.below XR.out (hB19))
  replace SR := Lib.hid (SlR.mono SR.out (Keep.below (hB19)))
  replace XW := Lib.hid (BoxD.below XW.out (hB19))
  replace XL := Lib.hid (BoxD.below XL.out (hB19))
  replace XC := Lib.hid (BoxD.below XC.out (hB19))
  replace XU := Lib.hid (BoxD.below XU.out (hB19))
  obtain ⟨u20, f20, l20⟩ := XR.out.blk.all
  obtain ⟨u21, f21, l21⟩ := XN.out.blk.all
  clear hB19
  go_wp2_with fail
  clear u20 f20 l20 u21 f21 l21
  refine (disk_any _ _ noD noD _ _ _ XR.out.rv XN.out.rv smD_no).mono ?_
  rw [show decide (noD = noD) = true by simp]
  rintro q w22 ⟨rfl, hB22⟩
  replace X0 := Lib.hid (BoxD.below X0.out (hB22))
  replace XI := Lib.hid (BoxD.below XI.out (hB22))
  replace XN := Lib.hid (BoxD.below XN.out (hB22))
  replace SX := Lib.hid (SlR.mono SX.out (Keep.below (hB22)))
  replace B := Lib.hid (upx B.out (hB22))
  replace XR := Lib.hid (BoxD.below XR.out (hB22))
  replace SR := Lib.hid (SlR.mono SR.out (Keep.below (hB22)))
  replace XW := Lib.hid (BoxD.below XW.out (hB22))
  replace XL := Lib.hid (BoxD.below XL.out (hB22))
  replace XC := Lib.hid (BoxD.below XC.out (hB22))
  replace XU := Lib.hid (BoxD.below XU.out (hB22))
  obtain ⟨u23, f23, l23⟩ := XW.out.blk.all
  obtain ⟨u24, f24, l24⟩ := XN.out.blk.all
  clear hB22
  go_wp2_with fail
  clear u23 f23 l23 u24 f24 l24
  refine (disk_any _ _ noD noD _ _ _ XW.out.rv XN.out.rv smD_no).mono ?_
  rw [show decide (noD = noD) = true by simp]
  rintro q w25 ⟨rfl, hB25⟩
  replace X0 := Lib.hid (BoxD.below X0.out (hB25))
  replace XI := Lib.hid (BoxD.below XI.out (hB25))
  replace XN := Lib.hid (BoxD.below XN.out (hB25))
  replace SX := Lib.hid (SlR.mono SX.out (Keep.below (hB25)))
  replace B := Lib.hid (upx B.out (hB25))
  replace XR := Lib.hid (BoxD.below XR.out (hB25))
  replace SR := Lib.hid (SlR.mono SR.out (Keep.below (hB25)))
  replace XW := Lib.hid (BoxD.below XW.out (hB25))
  replace XL := Lib.hid (BoxD.below XL.out (hB25))
  replace XC := Lib.hid (BoxD.below XC.out (hB25))
  replace XU := Lib.hid (BoxD.below XU.out (hB25))
  obtain ⟨u26, f26, l26⟩ := XL.out.blk.all
  obtain ⟨u27, f27, l27⟩ := XN.out.blk.all
  clear hB25
  go_wp2_with fail
  clear u26 f26 l26 u27 f27 l27
  refine (disk_any _ _ noD noD _ _ _ XL.out.rv XN.out.rv smD_no).mono ?_
  rw [show decide (noD = noD) = true by simp]
  rintro q w28 ⟨rfl, hB28⟩
  replace X0 := Lib.hid (BoxD.below X0.out (hB28))
  replace XI := Lib.hid (BoxD.below XI.out (hB28))
  replace XN := Lib.hid (BoxD.below XN.out (hB28))
  replace SX := Lib.hid (SlR.mono SX.out (Keep.below (hB28)))
  replace B := Lib.hid (upx B.out (hB28))
  replace XR := Lib.hid (BoxD.below XR.out (hB28))
  replace SR := Lib.hid (SlR.mono SR.out (Keep.below (hB28)))
  replace XW := Lib.hid (BoxD.below XW.out (hB28))
  replace XL := Lib.hid (BoxD.below XL.out (hB28))
  replace XC := Lib.hid (BoxD.below XC.out (hB28))
  replace XU := Lib.hid (BoxD.below XU.out (hB28))
  obtain ⟨u29, f29, l29⟩ := XC.out.blk.all
  obtain ⟨u30, f30, l30⟩ := XN.out.blk.all
  clear hB28
  go_wp2_with fail
  clear u29 f29 l29 u30 f30 l30
  refine (disk_any _ _ noD noD _ _ _ XC.out.rv XN.out.rv smD_no).mono ?_
  rw [show decide (noD = noD) = true by simp]
  rintro q w31 ⟨rfl, hB31⟩
  replace X0 := Lib.hid (BoxD.below X0.out (hB31))
  replace XI := Lib.hid (BoxD.below XI.out (hB31))
  replace XN := Lib.hid (BoxD.below XN.out (hB31))
  replace SX := Lib.hid (SlR.mono SX.out (Keep.below (hB31)))
  replace B := Lib.hid (upx B.out (hB31))
  replace XR := Lib.hid (BoxD.below XR.out (hB31))
  replace SR := Lib.hid (SlR.mono SR.out (Keep.below (hB31)))
  replace XW := Lib.hid (BoxD.below XW.out (hB31))
  replace XL := Lib.hid (BoxD.below XL.out (hB31))
  replace XC := Lib.hid (BoxD.below XC.out (hB31))
  replace XU := Lib.hid (BoxD.below XU.out (hB31))
  obtain ⟨u32, f32, l32⟩ := XU.out.blk.all
  obtain ⟨u33, f33, l33⟩ := XN.out.blk.all
  clear hB31
  go_wp2_with fail
  clear u32 f32 l32 u33 f33 l33
  refine (disk_any _ _ noD noD _ _ _ XU.out.rv XN.out.rv smD_no).mono ?_
  rw [show decide (noD = noD) = true by simp]
  rintro q w34 ⟨rfl, hB34⟩
  replace X0 := Lib.hid (BoxD.below X0.out (hB34))
  replace XI := Lib.hid (BoxD.below XI.out (hB34))
  replace XN := Lib.hid (BoxD.below XN.out (hB34))
  replace SX := Lib.hid (SlR.mono SX.out (Keep.below (hB34)))
  replace B := Lib.hid (upx B.out (hB34))
  replace XR := Lib.hid (BoxD.below XR.out (hB34))
  replace SR := Lib.hid (SlR.mono SR.out (Keep.below (hB34)))
  replace XW := Lib.hid (BoxD.below XW.out (hB34))
  replace XL := Lib.hid (BoxD.below XL.out (hB34))
  replace XC := Lib.hid (BoxD.below XC.out (hB34))
  replace XU := Lib.hid (BoxD.below XU.out (hB34))
  clear hB34
  go_wp2_with fail
  refine (wakes_any _).mono ?_
  rintro q w99 ⟨rfl, hB99⟩
  go_wp2
  go_ret
  exact ⟨rfl, upx B.out hB99⟩
end Go.Proofs.Ytkdjacmabeeceaa
