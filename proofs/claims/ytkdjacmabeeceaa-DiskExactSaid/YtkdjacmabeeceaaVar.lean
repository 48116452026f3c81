/-
A variable that holds a disk; the contract of wakes.
-/
import Derived.Test.YtkdjacmabeeceaaKTwin
namespace Go.Proofs.Ytkdjacmabeeceaa
open Go.RowKit
attribute [local go_sem ↓] Go.wp_at_zero Go.wp_at_succ

theorem rv_agg {w : World} {M : Ms} {c k : Value} {q l : Int} {d : Dis} (h : Rv w M (.agg #[c, k, .int .i64 q, .int .i64 l]) d) : SlR w M c d.cells ∧ SlR w M k d.cache := by
  obtain ⟨c', k', e, hc, hk⟩ := rv_dis.1 h
  simp only [Value.agg.injEq, Array.mk.injEq, List.cons.injEq] at e
  obtain ⟨rfl, rfl, -⟩ := e
  exact ⟨hc, hk⟩
structure VarD (w : World) (M : Ms) (b : Nat) (c k : Value) (d : Dis) : Prop where
  blk : Blk w b 27 #[c, k, .int .i64 d.reqs, .int .i64 d.left]
  rv : Rv w M (.agg #[c, k, .int .i64 d.reqs, .int .i64 d.left]) d
  mem : M b
  ok : MOk w M
theorem VarD.new {w : World} {M : Ms} {c k : Value} {d : Dis} (h : Rv w M (.agg #[c, k, .int .i64 d.reqs, .int .i64 d.left]) d) (hM : MOk w M) :
    VarD (w.alloc (.cells #[c, k, .int .i64 d.reqs, .int .i64 d.left] 27)) (M.and w.heap.size) w.heap.size c k d :=
  have hB := (Below.refl w.heap.size w).alloc (Nat.le_refl _) (.cells #[c, k, .int .i64 d.reqs, .int .i64 d.left] 27)
  ⟨Blk.new _ _ _, h.mono (Keep.boxed hB (Nat.le_refl _)), .inr rfl, MOk.boxed hM hB.size (by simp)⟩
theorem VarD.below {w w' : World} {M : Ms} {b : Nat} {c k : Value} {d : Dis} (h : VarD w M b c k d) (hB : Below w.heap.size w w') : VarD w' M b c k d :=
  ⟨h.blk.below hB, h.rv.below hB, h.mem, h.ok.below hB.size⟩
theorem VarD.set {w : World} {M : Ms} {b : Nat} {c k c' k' : Value} {d d' : Dis} (h : VarD w M b c k d) (hr : Rv w M (.agg #[c', k', .int .i64 d'.reqs, .int .i64 d'.left]) d') :
    VarD (st4 w b c' k' (.int .i64 d'.reqs) (.int .i64 d'.left)) M b c' k' d' ∧ Keep w M (st4 w b c' k' (.int .i64 d'.reqs) (.int .i64 d'.left)) M := by
  have hg := st4_grown w b c' k' (.int .i64 d'.reqs) (.int .i64 d'.left)
  have hk : Keep w M (st4 w b c' k' (.int .i64 d'.reqs) (.int .i64 d'.left)) M := fun x hx hm => ⟨hm, hg.block x hx (fun e => hm (by injection e with e; rw [e]; exact h.mem))⟩
  exact ⟨⟨st4_blk h.blk _ _ _ _, hr.mono hk, h.mem, h.ok.below hg.size⟩, hk⟩
/-- A disk's value, taken apart. -/
theorem dis_form {w : World} {M : Ms} {v : Value} {d : Dis} (h : Rv w M v d) : ∃ Ac nc Ak nk, v = .agg #[.slice Ac d.cells.length nc, .slice Ak d.cache.length nk, .int .i64 d.reqs, .int .i64 d.left] := by
  obtain ⟨c, k, rfl, hc, hk⟩ := rv_dis.1 h
  obtain ⟨Ac, nc, rfl⟩ := hc.form
  obtain ⟨Ak, nk, rfl⟩ := hk.form
  exact ⟨_, _, _, _, rfl⟩

def wk1 : Dis := ⟨[⟨0, [], []⟩, ⟨0, [], []⟩], [], 0, -1⟩
def wk2 : Dis := ⟨[⟨0, [], []⟩, ⟨0, [], []⟩], [⟨1, [7]⟩], 1, -1⟩
def wk3 : Dis := ⟨[⟨0, [], []⟩, ⟨0, [], []⟩], [⟨1, [7]⟩], 2, -1⟩
def wk4 : Dis := ⟨[⟨0, [], []⟩, ⟨0, [], []⟩], [], 2, -1⟩
def wk5 : Dis := ⟨[⟨0, [], []⟩, ⟨0, [7], []⟩], [], 3, -1⟩
def wk6 : Dis := ⟨[⟨0, [], []⟩, ⟨0, [], []⟩], [], 3, -1⟩
theorem wk_1 : newT 2 = (wk1, 0) := by decide
theorem wk_2 : writeT wk1 1 [7] = (wk2, 0) := by decide
theorem wk_3 : readT wk2 1 = (wk3, [7], 0) := by decide
theorem wk_4 : crashT wk3 0 = (wk4, 0) := by decide
theorem wk_5 : flushT wk3 = (wk5, 0) := by decide
theorem wk_6 : readT wk4 1 = (wk6, [], 0) := by decide

set_option maxHeartbeats 4000000 in
theorem wakes_any (w : World) :
    Calls Try.prog 18 #[] w fun e w' => e = .returned (.bool true) ∧ Below w.heap.size w w' := by
  go_enter Try.func18, Try.ntmps18
  go_wp2_with fail
  refine (tnew_any 2 w noM (fun _ h => h.elim)).mono ?_
  rw [wk_1]
  rintro e w1 ⟨r1, rfl, hr1, hB1⟩
  obtain ⟨Ac1, nc1, Ak1, nk1, rfl⟩ := dis_form hr1
  have V1 := Lib.hid (VarD.new hr1 (fun _ h => h.elim))
  have hb1 := Lib.hid hB1
  have hb1s := Lib.hid hB1.size
  clear hr1 hB1
  go_wp2_with fail
  have hB2 := (Below.refl _ (w1.alloc (.cells #[.slice Ac1 wk1.cells.length nc1, .slice Ak1 wk1.cache.length nk1, .int .i64 wk1.reqs, .int .i64 wk1.left] 27))).alloc (Nat.le_refl _) (.cells #[Value.int .u8 7] 5)
  have hx2 := Blk.new (w1.alloc (.cells #[.slice Ac1 wk1.cells.length nc1, .slice Ak1 wk1.cache.length nk1, .int .i64 wk1.reqs, .int .i64 wk1.left] 27)) 5 #[Value.int .u8 7]
  rw [show (w1.alloc (.cells #[.slice Ac1 wk1.cells.length nc1, .slice Ak1 wk1.cache.length nk1, .int .i64 wk1.reqs, .int .i64 wk1.left] 27)).heap.size = w1.heap.size + 1 by simp] at hx2
  have V2 := Lib.hid (V1.out.below hB2)
  have hb2 := Lib.hid ((hb1.out.alloc hb1.out.size (.cells #[.slice Ac1 wk1.cells.length nc1, .slice Ak1 wk1.cache.length nk1, .int .i64 wk1.reqs, .int .i64 wk1.left] 27)).alloc (Nat.le_trans hb1.out.size (by simp)) (.cells #[Value.int .u8 7] 5))
  have hsl := SlR.one (α := UInt8) (M := noM.and w1.heap.size) (cs := [.int .u8 7]) (x := 7) hx2 rfl (by rintro (h | h); exact h; omega)
  have hsl := Lib.hid hsl
  clear V1 hb1 hB2 hx2
  generalize ((w1.alloc (.cells #[.slice Ac1 wk1.cells.length nc1, .slice Ak1 wk1.cache.length nk1, .int .i64 wk1.reqs, .int .i64 wk1.left] 27)).alloc (.cells #[Value.int .u8 7] 5)) = w2 at *
  refine (twrite_any _ _ wk1 1 [7] w2 _ V2.out.rv hsl.out V2.out.ok (by decide) (by decide) (by decide)).mono ?_
  rw [wk_2]
  rintro e w3 ⟨r3, rfl, hr3, hB3⟩
  obtain ⟨Ac3, nc3, Ak3, nk3, rfl⟩ := dis_form hr3
  have V3 := Lib.hid (V2.out.below hB3)
  have hge := Lib.hid (show w.heap.size ≤ w1.heap.size from hb1s.out)
  have X3 := Lib.hid (V3.out.set hr3).1
  have hb3 := Lib.hid (st4_below (hb2.out.trans (hB3.mono hb2.out.size)) (b := w1.heap.size) hge.out (.slice Ac3 wk2.cells.length nc3) (.slice Ak3 wk2.cache.length nk3) (.int .i64 wk2.reqs) (.int .i64 wk2.left))
  obtain ⟨c3, f3, l3⟩ := V3.out.blk.all
  clear hr3 hB3 hsl
  go_wp2_with fail
  clear c3 f3 l3 V2 V3
  unfold st4 at *
  generalize (((w3.setCell ⟨w1.heap.size, 0, none⟩ (.slice Ac3 wk2.cells.length nc3)).setCell ⟨w1.heap.size, 1, none⟩ (.slice Ak3 wk2.cache.length nk3)).setCell ⟨w1.heap.size, 2, none⟩ (.int .i64 wk2.reqs)).setCell ⟨w1.heap.size, 3, none⟩ (.int .i64 wk2.left) = w4 at *
  refine (tread_any _ wk2 1 w4 _ X3.out.rv X3.out.ok (by decide) (by decide)).mono ?_
  rw [wk_3]
  rintro e w5 ⟨r5, s5, rfl, hr5, hs5, hB5⟩
  obtain ⟨Ac5, nc5, Ak5, nk5, rfl⟩ := dis_form hr5
  obtain ⟨As5, ns5, rfl⟩ := hs5.form
  have V5 := Lib.hid (X3.out.below hB5)
  have X5 := Lib.hid (V5.out.set hr5).1
  have S5 := Lib.hid (hs5.mono (V5.out.set hr5).2)
  have hb5 := Lib.hid (st4_below (hb3.out.trans (hB5.mono hb3.out.size)) (b := w1.heap.size) hge.out (.slice Ac5 wk3.cells.length nc5) (.slice Ak5 wk3.cache.length nk5) (.int .i64 wk3.reqs) (.int .i64 wk3.left))
  obtain ⟨c5, f5, l5⟩ := V5.out.blk.all
  clear hr5 hB5 hs5
  go_wp2_with fail
  clear c5 f5 l5 V5 X3
  unfold st4 at *
  generalize (((w5.setCell ⟨w1.heap.size, 0, none⟩ (.slice Ac5 wk3.cells.length nc5)).setCell ⟨w1.heap.size, 1, none⟩ (.slice Ak5 wk3.cache.length nk5)).setCell ⟨w1.heap.size, 2, none⟩ (.int .i64 wk3.reqs)).setCell ⟨w1.heap.size, 3, none⟩ (.int .i64 wk3.left) = w6 at *
  refine (tcrash_any _ wk3 0 w6 _ X5.out.rv X5.out.ok (by decide) (by decide) (by decide)).mono ?_
  rw [wk_4]
  rintro e w7 ⟨r7, rfl, hr7, hB7⟩
  obtain ⟨Ac7, nc7, Ak7, nk7, rfl⟩ := dis_form hr7
  have V7 := Lib.hid (X5.out.below hB7)
  have hA7 := (Below.refl w7.heap.size w7).alloc (Nat.le_refl _) (.cells #[.slice Ac7 wk4.cells.length nc7, .slice Ak7 wk4.cache.length nk7, .int .i64 wk4.reqs, .int .i64 wk4.left] 27)
  have X7 := Lib.hid (V7.out.below hA7)
  have Y7 := Lib.hid (VarD.new hr7 V7.out.ok)
  have S7 := Lib.hid ((S5.out.mono (Keep.below hB7)).mono (Keep.below hA7))
  have hb7 := Lib.hid ((hb5.out.trans (hB7.mono hb5.out.size)).trans (hA7.mono (Nat.le_trans hb5.out.size hB7.size)))
  obtain ⟨c7, f7, l7⟩ := V7.out.blk.all
  clear hr7 hB7 S5
  go_wp2_with fail
  clear c7 f7 l7 V7 X5 hA7
  have hz7 : w7.heap.size < (w7.alloc (.cells #[.slice Ac7 wk4.cells.length nc7, .slice Ak7 wk4.cache.length nk7, .int .i64 wk4.reqs, .int .i64 wk4.left] 27)).heap.size := by simp
  generalize (w7.alloc (.cells #[.slice Ac7 wk4.cells.length nc7, .slice Ak7 wk4.cache.length nk7, .int .i64 wk4.reqs, .int .i64 wk4.left] 27)) = w8 at *
  refine (tflush_any _ wk3 w8 _ X7.out.rv X7.out.ok (by decide) (by decide)).mono ?_
  rw [wk_5]
  rintro e w9 ⟨r9, rfl, hr9, hB9⟩
  obtain ⟨Ac9, nc9, Ak9, nk9, rfl⟩ := dis_form hr9
  have Y9 := Lib.hid (Y7.out.below hB9)
  have hA9 := (Below.refl w9.heap.size w9).alloc (Nat.le_refl _) (.cells #[.slice Ac9 wk5.cells.length nc9, .slice Ak9 wk5.cache.length nk9, .int .i64 wk5.reqs, .int .i64 wk5.left] 27)
  have Y10 := Lib.hid (Y9.out.below hA9)
  have Z9 := Lib.hid (VarD.new hr9 (X7.out.ok.below hB9.size))
  have S9 := Lib.hid ((S7.out.mono (Keep.below hB9)).mono (Keep.below hA9))
  have hb9 := Lib.hid ((hb7.out.trans (hB9.mono hb7.out.size)).trans (hA9.mono (Nat.le_trans hb7.out.size hB9.size)))
  obtain ⟨c9, f9, l9⟩ := Y9.out.blk.all
  clear hr9 hB9 S7
  go_wp2_with fail
  clear c9 f9 l9 Y9 hA9 X7 Y7
  have hz9 : w9.heap.size < (w9.alloc (.cells #[.slice Ac9 wk5.cells.length nc9, .slice Ak9 wk5.cache.length nk9, .int .i64 wk5.reqs, .int .i64 wk5.left] 27)).heap.size := by simp
  generalize (w9.alloc (.cells #[.slice Ac9 wk5.cells.length nc9, .slice Ak9 wk5.cache.length nk9, .int .i64 wk5.reqs, .int .i64 wk5.left] 27)) = w10 at *
  refine (tread_any _ wk4 1 w10 _ Y10.out.rv Y10.out.ok (by decide) (by decide)).mono ?_
  rw [wk_6]
  rintro e w11 ⟨r11, s11, rfl, hr11, hs11, hB11⟩
  obtain ⟨Ac11, nc11, Ak11, nk11, rfl⟩ := dis_form hr11
  obtain ⟨As11, ns11, rfl⟩ := hs11.form
  have Z11 := Lib.hid (Z9.out.below hB11)
  have hA11 := (Below.refl w11.heap.size w11).alloc (Nat.le_refl _) (.cells #[.slice Ac11 wk6.cells.length nc11, .slice Ak11 wk6.cache.length nk11, .int .i64 wk6.reqs, .int .i64 wk6.left] 27)
  have Z12 := Lib.hid (Z11.out.below hA11)
  have S11 := S9.out.mono (Keep.below hB11)
  have hb11 := Lib.hid ((hb9.out.trans (hB11.mono hb9.out.size)).trans (hA11.mono (Nat.le_trans hb9.out.size hB11.size)))
  clear hr11 hB11 S9
  obtain ⟨bb, ob, hbb, -, hcell⟩ := u8_at S11 (k := 0) (by decide)
  have hcl := (rv_agg Z12.out.rv).1
  obtain ⟨bc, oc, vbc, voc, rfl, -, -, hc1, -, hbs, -⟩ := cel_at hcl (k := 1) (by decide)
  obtain ⟨Abc, nbc, rfl⟩ := hbs.form
  subst hbb
  have e1 : wk5.cells.length = 2 := rfl
  have e2 : wk5.cache.length = 0 := rfl
  have e3 : wk5.cells[1].bytes.length = 1 := rfl
  have hcell' : w11.cell? ⟨bb, ob + 0, none⟩ = some (.int .u8 7) := hcell
  have hcell2 := below_cell hA11 hcell'
  rw [Nat.add_zero] at hcell2
  obtain ⟨c12, f12, l12⟩ := Z12.out.blk.all
  rw [e3] at hc1
  rw [e1, e2] at c12
  simp only [Nat.one_mul] at hc1
  clear hcell hcell' S11 hbs hcl e1 e2 e3
  go_wp2
  go_show
  go_ret
  exact ⟨rfl, hb11.out⟩
end Go.Proofs.Ytkdjacmabeeceaa
