/-
The law DiskSame: a power cut that keeps all, a flush, a power cut that keeps nothing, one power cut after another.
-/
import Derived.Test.YtkdjacmabeeceaaRight
namespace Go.Proofs.Ytkdjacmabeeceaa
open Go.RowKit
attribute [local go_sem ↓] Go.wp_at_zero Go.wp_at_succ

theorem sel_zero (k : Nat) : sel 0 k = false := by
  unfold sel
  rw [Int.zero_ediv]
  rfl
theorem sel_all (k : Nat) : sel 2147483647 k = true := by
  unfold sel
  have h : k % 31 < 31 := Nat.mod_lt _ (by omega)
  generalize k % 31 = m at h
  have : ∀ m : Fin 31, (bits .and .i64 ((2147483647 : Int) / 2 ^ m.val) 1 == 1) = true := by decide
  exact this ⟨m, h⟩
theorem runK_zero (l : List Cel) (ws : List Wri) (k : Nat) : runK 0 l ws k = l := by
  induction k with
  | zero => rfl
  | succ k ih => unfold runK; rw [sel_zero, ih]; split <;> simp
theorem runK_all (l : List Cel) (ws : List Wri) (k : Nat) (hk : k ≤ ws.length) : runK 2147483647 l ws k = runC l (ws.take k) := by
  induction k with
  | zero => rfl
  | succ k ih =>
    have hlt : k < ws.length := hk
    unfold runK
    rw [sel_all, List.getElem?_eq_getElem hlt, ih (by omega), runC_succ _ _ _ hlt]
    rfl

/-- A block that holds a disk and is not written any more. -/
structure BoxD (w : World) (b : Nat) (c k : Value) (d : Dis) : Prop where
  blk : Blk w b 27 #[c, k, .int .i64 d.reqs, .int .i64 d.left]
  rv : Rv w noM (.agg #[c, k, .int .i64 d.reqs, .int .i64 d.left]) d
theorem BoxD.new {w : World} {c k : Value} {d : Dis} (h : Rv w noM (.agg #[c, k, .int .i64 d.reqs, .int .i64 d.left]) d) : BoxD (w.alloc (.cells #[c, k, .int .i64 d.reqs, .int .i64 d.left] 27)) w.heap.size c k d :=
  ⟨Blk.new _ _ _, h.below ((Below.refl w.heap.size w).alloc (Nat.le_refl _) _)⟩
theorem BoxD.below {w w' : World} {b : Nat} {c k : Value} {d : Dis} (h : BoxD w b c k d) (hB : Below w.heap.size w w') : BoxD w' b c k d := ⟨h.blk.below hB, h.rv.below hB⟩
theorem noMok (w : World) : MOk w noM := fun _ h => h.elim

theorem same_facts {d : Dis} {keep : Int} (h : disB d = true) (hk : 0 ≤ keep) (hl : d.left ≠ 0) :
    ∃ A B C X, crashT d 2147483647 = (A, 0) ∧ flushT d = (B, 0) ∧ crashT d 0 = (C, 0) ∧ crashT d keep = (X, 0) ∧ crashT X keep = (X, 0) ∧ A.cells = B.cells ∧ C.cells = d.cells ∧ A.cells.length = d.cells.length ∧ X.cells.length = d.cells.length ∧ A.left = -1 ∧ OkD A ∧ OkD B ∧ OkD C ∧ OkD X := by
  have hO := okD_iff.1 h
  have hX : OkD (crashD d keep) := hO.crash
  refine ⟨crashD d 2147483647, (flushD d).1, crashD d 0, crashD d keep, by simp [crashT, h], ?_, by simp [crashT, h], by simp [crashT, h, hk], ?_, ?_, ?_, ?_, ?_, rfl, hO.crash, hO.flush, hO.crash, hX⟩
  · rw [flushT, h, if_pos rfl, flushD, if_neg hl]
  · simp only [crashT, okD_iff.2 hX, hk, decide_true, Bool.and_self, if_true]; rfl
  · rw [flushD, if_neg hl]; simp only [crashD]; rw [runK_all _ _ _ (Nat.le_refl _), List.take_length]
  · simp only [crashD]; rw [runK_zero]
  · simp only [crashD]; rw [runK_length]
  · simp only [crashD]; rw [runK_length]

set_option maxRecDepth 100000 in
set_option maxHeartbeats 8000000 in
theorem same_any (v : Value) (d : Dis) (keep : Int) (hk63 : keep < 9223372036854775808) (w : World) (h : Rv w noM v d) :
    Calls Try.prog 7 #[v, .int .i64 keep] w fun e w' => e = .returned (.bool true) ∧ Below w.heap.size w w' := by
  obtain ⟨Ac0, nc0, Ak0, nk0, rfl⟩ := dis_form h
  have hB0 := Lib.hid ((Below.refl w.heap.size w).alloc (Nat.le_refl _) (.cells #[.slice Ac0 d.cells.length nc0, .slice Ak0 d.cache.length nk0, .int .i64 d.reqs, .int .i64 d.left] 27))
  have X0 := Lib.hid (BoxD.new h)
  clear h
  go_enter Try.func7, Try.ntmps7
  go_wp2_with fail
  generalize w.alloc (.cells #[.slice Ac0 d.cells.length nc0, .slice Ak0 d.cache.length nk0, .int .i64 d.reqs, .int .i64 d.left] 27) = w0 at *
  refine (heavy_any _ d w0 noM X0.out.rv).mono ?_
  rintro e w1 ⟨⟨hb, rfl, hf⟩, hB1⟩
  have X1 := Lib.hid (X0.out.below hB1)
  have B1 := Lib.hid (hB0.out.trans (hB1.mono hB0.out.size))
  have c1 := X1.out.blk.cell
  clear X0 hB0 hB1
  cases hb
  case true =>
    go_wp2
    go_ret
    exact ⟨rfl, B1.out⟩
  have hf := Lib.hid (hf rfl)
  go_wp2_with fail
  clear c1
  refine (right_any _ d w1 noM X1.out.rv).mono ?_
  rintro e w2 ⟨rfl, hB2⟩
  have X2 := Lib.hid (X1.out.below hB2)
  have B2 := Lib.hid (B1.out.trans (hB2.mono B1.out.size))
  obtain ⟨c2, -, l2⟩ := X2.out.blk.all
  clear X1 B1 hB2
  cases hD : disB d
  · clear hD
    go_wp2
    go_ret
    exact ⟨rfl, B2.out⟩
  have HD := Lib.hid hD
  clear hD
  by_cases hk0 : 0 ≤ keep
  case neg =>
    have hk0' : keep < 0 := by omega
    go_wp2
    go_ret
    exact ⟨rfl, B2.out⟩
  have hk0' : ¬ keep < 0 := by omega
  by_cases hl0 : 0 ≤ d.left ∧ d.left < 2
  · have hl1 := hl0.1
    have hl2 := hl0.2
    go_wp2
    go_ret
    exact ⟨rfl, B2.out⟩
  obtain ⟨A, B, C, X, hA, hBB, hC, hX, hY, e1, e2, e3, e4, e5, oA, oB, oC, oX⟩ := same_facts HD.out hk0 (by omega : d.left ≠ 0)
  have hA := Lib.hid hA
  have hBB := Lib.hid hBB
  have hC := Lib.hid hC
  have hX := Lib.hid hX
  have hY := Lib.hid hY
  have E1 := Lib.hid e1
  have E2 := Lib.hid e2
  have E3 := Lib.hid e3
  have E4 := Lib.hid e4
  have E5 := Lib.hid e5
  have OA := Lib.hid oA.sm
  have OX := Lib.hid oX.sm
  have OD := Lib.hid (okD_iff.1 HD.out).sm
  have hd1 : d.cells.length ≤ 1000000000 := OD.out.1
  have hd2 : d.cache.length ≤ 1000000000 := OD.out.2.1
  clear e1 e2 e3 e4 e5 oA oB oC oX
  rcases (show d.left < 0 ∨ (0 ≤ d.left ∧ ¬ d.left < 2) by omega) with hn | ⟨hn, hn'⟩
  all_goals
    go_wp2_with fail
    clear c2 l2
    refine (tcrash_any _ d 2147483647 w2 noM X2.out.rv (noMok _) hd1 hd2 (by omega)).mono ?_
    rw [hA.out]
    rintro e w3 ⟨r3, rfl, hr3, hB3⟩
    obtain ⟨Ac3, nc3, Ak3, nk3, rfl⟩ := dis_form hr3
    have hB3' := hB3.alloc hB3.size (.cells #[.slice Ac3 A.cells.length nc3, .slice Ak3 A.cache.length nk3, .int .i64 A.reqs, .int .i64 A.left] 27)
    have XA := Lib.hid (BoxD.new hr3)
    have X3 := Lib.hid (X2.out.below hB3')
    have B3 := Lib.hid (B2.out.trans (hB3'.mono B2.out.size))
    obtain ⟨c3, -, l3⟩ := (X2.out.below hB3).blk.all
    clear hr3 hB3 hB3' X2 B2
    go_wp2_with fail
    clear c3 l3
    generalize w3.alloc (.cells #[.slice Ac3 A.cells.length nc3, .slice Ak3 A.cache.length nk3, .int .i64 A.reqs, .int .i64 A.left] 27) = w4 at *
    refine (tflush_any _ d w4 noM X3.out.rv (noMok _) hd1 hd2).mono ?_
    rw [hBB.out]
    rintro e w5 ⟨r5, rfl, hr5, hB5⟩
    obtain ⟨Ac5, nc5, Ak5, nk5, rfl⟩ := dis_form hr5
    have hB5' := hB5.alloc hB5.size (.cells #[.slice Ac5 B.cells.length nc5, .slice Ak5 B.cache.length nk5, .int .i64 B.reqs, .int .i64 B.left] 27)
    have XB := Lib.hid (BoxD.new hr5)
    have XA5 := Lib.hid (XA.out.below hB5')
    have X5 := Lib.hid (X3.out.below hB5')
    have B5 := Lib.hid (B3.out.trans (hB5'.mono B3.out.size))
    obtain ⟨c5, -, l5⟩ := (X3.out.below hB5).blk.all
    clear hr5 hB5 hB5' X3 B3 XA
    go_wp2_with fail
    clear c5 l5
    generalize w5.alloc (.cells #[.slice Ac5 B.cells.length nc5, .slice Ak5 B.cache.length nk5, .int .i64 B.reqs, .int .i64 B.left] 27) = w6 at *
    refine (tcrash_any _ d 0 w6 noM X5.out.rv (noMok _) hd1 hd2 (by omega)).mono ?_
    rw [hC.out]
    rintro e w7 ⟨r7, rfl, hr7, hB7⟩
    obtain ⟨Ac7, nc7, Ak7, nk7, rfl⟩ := dis_form hr7
    have hB7' := hB7.alloc hB7.size (.cells #[.slice Ac7 C.cells.length nc7, .slice Ak7 C.cache.length nk7, .int .i64 C.reqs, .int .i64 C.left] 27)
    have XC := Lib.hid (BoxD.new hr7)
    have XA7 := Lib.hid (XA5.out.below hB7')
    have XB7 := Lib.hid (XB.out.below hB7')
    have X7 := Lib.hid (X5.out.below hB7')
    have B7 := Lib.hid (B5.out.trans (hB7'.mono B5.out.size))
    obtain ⟨c7, -, l7⟩ := (X5.out.below hB7).blk.all
    clear hr7 hB7 hB7' X5 B5 XA5 XB
    go_wp2_with fail
    clear c7 l7
    generalize w7.alloc (.cells #[.slice Ac7 C.cells.length nc7, .slice Ak7 C.cache.length nk7, .int .i64 C.reqs, .int .i64 C.left] 27) = w8 at *
    refine (tcrash_any _ d keep w8 noM X7.out.rv (noMok _) hd1 hd2 hk63).mono ?_
    rw [hX.out]
    rintro e w9 ⟨r9, rfl, hr9, hB9⟩
    obtain ⟨Ac9, nc9, Ak9, nk9, rfl⟩ := dis_form hr9
    have hB9' := hB9.alloc hB9.size (.cells #[.slice Ac9 X.cells.length nc9, .slice Ak9 X.cache.length nk9, .int .i64 X.reqs, .int .i64 X.left] 27)
    have XX := Lib.hid (BoxD.new hr9)
    have XA9 := Lib.hid (XA7.out.below hB9')
    have XB9 := Lib.hid (XB7.out.below hB9')
    have XC9 := Lib.hid (XC.out.below hB9')
    have X9 := Lib.hid (X7.out.below hB9')
    have B9 := Lib.hid (B7.out.trans (hB9'.mono B7.out.size))
    clear hr9 hB9 hB9' X7 B7 XA7 XB7 XC
    go_wp2_with fail
    generalize w9.alloc (.cells #[.slice Ac9 X.cells.length nc9, .slice Ak9 X.cache.length nk9, .int .i64 X.reqs, .int .i64 X.left] 27) = w10 at *
    refine (tcrash_any _ X keep w10 noM XX.out.rv (noMok _) OX.out.1 OX.out.2.1 hk63).mono ?_
    rw [hY.out]
    rintro e w11 ⟨r11, rfl, hr11, hB11⟩
    obtain ⟨Ac11, nc11, Ak11, nk11, rfl⟩ := dis_form hr11
    have hB11' := hB11.alloc hB11.size (.cells #[.slice Ac11 X.cells.length nc11, .slice Ak11 X.cache.length nk11, .int .i64 X.reqs, .int .i64 X.left] 27)
    have XY := Lib.hid (BoxD.new hr11)
    have XA11 := Lib.hid (XA9.out.below hB11')
    have XB11 := Lib.hid (XB9.out.below hB11')
    have XC11 := Lib.hid (XC9.out.below hB11')
    have X11 := Lib.hid (X9.out.below hB11')
    have XX11 := Lib.hid (XX.out.below hB11')
    have B11 := Lib.hid (B9.out.trans (hB11'.mono B9.out.size))
    clear hr11 hB11 hB11' X9 B9 XA9 XB9 XC9 XX
    have eA := E3.out
    have eB : B.cells.length = d.cells.length := by rw [← E1.out]; exact E3.out
    have eC : C.cells.length = d.cells.length := by rw [E2.out]
    obtain ⟨f1, -, l1⟩ := XA11.out.blk.all
    obtain ⟨f2, -, l2⟩ := XB11.out.blk.all
    obtain ⟨f3, -, l3⟩ := XC11.out.blk.all
    obtain ⟨f4, -, l4⟩ := X11.out.blk.all
    have x1 : ((A.cells.length : Int) != d.cells.length) = false := by simp [eA]
    have x2 : ((B.cells.length : Int) != d.cells.length) = false := by simp [eB]
    have x3 : ((C.cells.length : Int) != d.cells.length) = false := by simp [eC]
    have EA := Lib.hid eA
    have EB := Lib.hid eB
    have EC := Lib.hid eC
    clear eA eB eC
    go_wp2
    clear f1 f2 f3 f4 l1 l2 l3 l4 x1 x2 x3
    generalize w11.alloc (.cells #[.slice Ac11 X.cells.length nc11, .slice Ak11 X.cache.length nk11, .int .i64 X.reqs, .int .i64 X.left] 27) = w12 at *
    have SA := Lib.hid (rv_agg XA11.out.rv).1
    have SB := Lib.hid (show SlR w12 noM (.slice Ac5 B.cells.length nc5) A.cells by have := (rv_agg XB11.out.rv).1; rwa [← E1.out] at this ⊢)
    have SC := Lib.hid (show SlR w12 noM (.slice Ac7 C.cells.length nc7) d.cells by have := (rv_agg XC11.out.rv).1; rwa [E2.out] at this ⊢)
    have SD := Lib.hid (rv_agg X11.out.rv).1
    go_loopw [15] (fun i wr => ∃ k : Nat, k ≤ d.cells.length ∧ i = .int .i64 k ∧ Below w12.heap.size w12 wr) (fun i _ => d.cells.length - (intOf i).toNat)
    case atStart => exact ⟨0, Nat.zero_le _, rfl, Below.refl _ _⟩
    case round =>
      obtain ⟨k, hk, rfl, hB⟩ := hrel
      have y4 := (X11.out.blk.below hB).cell
      by_cases hlt : k < d.cells.length
      · have hltA : k < A.cells.length := by rw [EA.out]; exact hlt
        have y1 := (XA11.out.blk.below hB).cell
        have y2 := (XB11.out.blk.below hB).cell
        have y3 := (XC11.out.blk.below hB).cell
        obtain ⟨b3, o3, vb3, vo3, rfl, -, p3, q3, -, z3, -⟩ := cel_at (SA.out.mono (Keep.below hB)) hltA
        obtain ⟨b5, o5, vb5, vo5, rfl, -, p5, q5, -, z5, -⟩ := cel_at (SB.out.mono (Keep.below hB)) hltA
        obtain ⟨b7, o7, vb7, vo7, rfl, -, p7, q7, -, z7, -⟩ := cel_at (SC.out.mono (Keep.below hB)) hlt
        obtain ⟨b0, o0, vb0, vo0, rfl, -, p0, q0, -, z0, -⟩ := cel_at (SD.out.mono (Keep.below hB)) hlt
        obtain ⟨ab3, cb3, rfl⟩ := z3.form
        obtain ⟨ab5, cb5, rfl⟩ := z5.form
        obtain ⟨ab7, cb7, rfl⟩ := z7.form
        obtain ⟨ab0, cb0, rfl⟩ := z0.form
        have hS := Lib.hid (show (∀ i, wr.drew.cell? ⟨w3.heap.size, i, none⟩ = #[Value.slice (some ⟨b3, o3, none⟩) A.cells.length nc3, .slice Ak3 A.cache.length nk3, .int .i64 A.reqs, .int .i64 A.left][i]?) ∧ (∀ i, wr.drew.cell? ⟨w5.heap.size, i, none⟩ = #[Value.slice (some ⟨b5, o5, none⟩) B.cells.length nc5, .slice Ak5 B.cache.length nk5, .int .i64 B.reqs, .int .i64 B.left][i]?) ∧ (∀ i, wr.drew.cell? ⟨w7.heap.size, i, none⟩ = #[Value.slice (some ⟨b7, o7, none⟩) C.cells.length nc7, .slice Ak7 C.cache.length nk7, .int .i64 C.reqs, .int .i64 C.left][i]?) ∧ (∀ i, wr.drew.cell? ⟨w.heap.size, i, none⟩ = #[Value.slice (some ⟨b0, o0, none⟩) d.cells.length nc0, .slice Ak0 d.cache.length nk0, .int .i64 d.reqs, .int .i64 d.left][i]?) ∧ wr.drew.cell? ⟨b3, o3 + k * 3, none⟩ = some (.int .i64 A.cells[k].state) ∧ wr.drew.cell? ⟨b3, o3 + k * 3 + 1, none⟩ = some (.slice ab3 A.cells[k].bytes.length cb3) ∧ wr.drew.cell? ⟨b5, o5 + k * 3, none⟩ = some (.int .i64 A.cells[k].state) ∧ wr.drew.cell? ⟨b5, o5 + k * 3 + 1, none⟩ = some (.slice ab5 A.cells[k].bytes.length cb5) ∧ wr.drew.cell? ⟨b7, o7 + k * 3, none⟩ = some (.int .i64 d.cells[k].state) ∧ wr.drew.cell? ⟨b7, o7 + k * 3 + 1, none⟩ = some (.slice ab7 d.cells[k].bytes.length cb7) ∧ wr.drew.cell? ⟨b0, o0 + k * 3, none⟩ = some (.int .i64 d.cells[k].state) ∧ wr.drew.cell? ⟨b0, o0 + k * 3 + 1, none⟩ = some (.slice ab0 d.cells[k].bytes.length cb0) from ⟨y1, y2, y3, y4, p3, q3, p5, q5, p7, q7, p0, q0⟩)
        have Z3 := Lib.hid (z3.mono (Keep.below (below_drew wr)))
        have Z5 := Lib.hid (z5.mono (Keep.below (below_drew wr)))
        have Z7 := Lib.hid (z7.mono (Keep.below (below_drew wr)))
        have Z0 := Lib.hid (z0.mono (Keep.below (below_drew wr)))
        have hbA := Lib.hid (OA.out.2.2.1 A.cells[k] (List.getElem_mem hltA)).1
        have hbD := Lib.hid (OD.out.2.2.1 d.cells[k] (List.getElem_mem hlt)).1
        have hBd := Lib.hid hB.drew
        have eA : (k : Int) < A.cells.length := by omega
        have eB : (k : Int) < B.cells.length := by rw [EB.out]; omega
        have eC : (k : Int) < C.cells.length := by rw [EC.out]; omega
        clear p3 q3 p5 q5 p7 q7 p0 q0 z3 z5 z7 z0 hB
        go_wp2_with fail
        clear y1 y2 y3 y4
        refine rg_enter [0, 1, 2, 3, 4, 5, 6, 7, 8, 9, 10, 11, 12, 13, 14, 15, 16, 17, 18, 19, 20, 21, 22, 23, 24, 25, 27, 28, 29, 30, 31, 32, 33, 34, 35, 36, 37, 38, 39, 40, 41, 42, 43, 44, 45, 46, 47, 48, 49, 50, 51, 52, 53, 54, 55, 56, 58, 59] (fun w' => (∀ i, w'.cell? ⟨w3.heap.size, i, none⟩ = #[Value.slice (some ⟨b3, o3, none⟩) A.cells.length nc3, .slice Ak3 A.cache.length nk3, .int .i64 A.reqs, .int .i64 A.left][i]?) ∧ (∀ i, w'.cell? ⟨w5.heap.size, i, none⟩ = #[Value.slice (some ⟨b5, o5, none⟩) B.cells.length nc5, .slice Ak5 B.cache.length nk5, .int .i64 B.reqs, .int .i64 B.left][i]?) ∧ (∀ i, w'.cell? ⟨w7.heap.size, i, none⟩ = #[Value.slice (some ⟨b7, o7, none⟩) C.cells.length nc7, .slice Ak7 C.cache.length nk7, .int .i64 C.reqs, .int .i64 C.left][i]?) ∧ (∀ i, w'.cell? ⟨w.heap.size, i, none⟩ = #[Value.slice (some ⟨b0, o0, none⟩) d.cells.length nc0, .slice Ak0 d.cache.length nk0, .int .i64 d.reqs, .int .i64 d.left][i]?) ∧ w'.cell? ⟨b3, o3 + k * 3, none⟩ = some (.int .i64 A.cells[k].state) ∧ w'.cell? ⟨b3, o3 + k * 3 + 1, none⟩ = some (.slice ab3 A.cells[k].bytes.length cb3) ∧ w'.cell? ⟨b5, o5 + k * 3, none⟩ = some (.int .i64 A.cells[k].state) ∧ w'.cell? ⟨b5, o5 + k * 3 + 1, none⟩ = some (.slice ab5 A.cells[k].bytes.length cb5) ∧ w'.cell? ⟨b7, o7 + k * 3, none⟩ = some (.int .i64 d.cells[k].state) ∧ w'.cell? ⟨b7, o7 + k * 3 + 1, none⟩ = some (.slice ab7 d.cells[k].bytes.length cb7) ∧ w'.cell? ⟨b0, o0 + k * 3, none⟩ = some (.int .i64 d.cells[k].state) ∧ w'.cell? ⟨b0, o0 + k * 3 + 1, none⟩ = some (.slice ab0 d.cells[k].bytes.length cb0)) (by kernel_rfl) ?_
        apply rg_take 0 rfl (by kernel_rfl) (fun _ _ _ h => h) (hS.out) rfl
        · (rintro W ⟨s0, s1, s2, s3, s4, s5, s6, s7, s8, s9, s10, s11⟩; go_simp; try rfl)
        · (go_simp; try rfl)
        apply rg_take 1 rfl (by kernel_rfl) (fun _ _ _ h => h) (hS.out) rfl
        · (rintro W ⟨s0, s1, s2, s3, s4, s5, s6, s7, s8, s9, s10, s11⟩; go_simp; try rfl)
        · (go_simp; try rfl)
        apply rg_take 2 rfl (by kernel_rfl) (fun _ _ _ h => h) (hS.out) rfl
        · (rintro W ⟨s0, s1, s2, s3, s4, s5, s6, s7, s8, s9, s10, s11⟩; go_simp; try rfl)
        · (go_simp; try rfl)
        apply rg_take 3 rfl (by kernel_rfl) (fun _ _ _ h => h) (hS.out) rfl
        · (rintro W ⟨s0, s1, s2, s3, s4, s5, s6, s7, s8, s9, s10, s11⟩; go_simp; try rfl)
        · (go_simp; try rfl)
        apply rg_take 4 rfl (by kernel_rfl) (fun _ _ _ h => h) (hS.out) rfl
        · (rintro W ⟨s0, s1, s2, s3, s4, s5, s6, s7, s8, s9, s10, s11⟩; go_simp; try rfl)
        · (go_simp; try rfl)
        apply rg_take 5 rfl (by kernel_rfl) (fun _ _ _ h => h) (hS.out) rfl
        · (rintro W ⟨s0, s1, s2, s3, s4, s5, s6, s7, s8, s9, s10, s11⟩; go_simp; try rfl)
        · (go_simp; try rfl)
        apply rg_take 6 rfl (by kernel_rfl) (fun _ _ _ h => h) (hS.out) rfl
        · (rintro W ⟨s0, s1, s2, s3, s4, s5, s6, s7, s8, s9, s10, s11⟩; go_simp; try rfl)
        · (go_simp; try rfl)
        apply rg_take 7 rfl (by kernel_rfl) (fun _ _ _ h => h) (hS.out) rfl
        · (rintro W ⟨s0, s1, s2, s3, s4, s5, s6, s7, s8, s9, s10, s11⟩; go_simp; try rfl)
        · (go_simp; try rfl)
        apply rg_take 8 rfl (by kernel_rfl) (fun _ _ _ h => h) (hS.out) rfl
        · (rintro W ⟨s0, s1, s2, s3, s4, s5, s6, s7, s8, s9, s10, s11⟩; go_simp; try rfl)
        · (go_simp; try rfl)
        apply rg_take 9 rfl (by kernel_rfl) (fun _ _ _ h => h) (hS.out) rfl
        · (rintro W ⟨s0, s1, s2, s3, s4, s5, s6, s7, s8, s9, s10, s11⟩; go_simp; try rfl)
        · (go_simp; try rfl)
        apply rg_take 10 rfl (by kernel_rfl) (fun _ _ _ h => h) (hS.out) rfl
        · (rintro W ⟨s0, s1, s2, s3, s4, s5, s6, s7, s8, s9, s10, s11⟩; go_simp; try rfl)
        · (go_simp; try rfl)
        apply rg_take 11 rfl (by kernel_rfl) (fun _ _ _ h => h) (hS.out) rfl
        · (rintro W ⟨s0, s1, s2, s3, s4, s5, s6, s7, s8, s9, s10, s11⟩; go_simp; try rfl)
        · (go_simp; try rfl)
        apply rg_take 12 rfl (by kernel_rfl) (fun _ _ _ h => h) (hS.out) rfl
        · (rintro W ⟨s0, s1, s2, s3, s4, s5, s6, s7, s8, s9, s10, s11⟩; go_simp; try rfl)
        · (go_simp; try rfl)
        apply rg_take 13 rfl (by kernel_rfl) (fun _ _ _ h => h) (hS.out) rfl
        · (rintro W ⟨s0, s1, s2, s3, s4, s5, s6, s7, s8, s9, s10, s11⟩; go_simp; try rfl)
        · (go_simp; try rfl)
        apply rg_take 14 rfl (by kernel_rfl) (fun _ _ _ h => h) (hS.out) rfl
        · (rintro W ⟨s0, s1, s2, s3, s4, s5, s6, s7, s8, s9, s10, s11⟩; go_simp; try rfl)
        · (go_simp; try rfl)
        apply rg_take 15 rfl (by kernel_rfl) (fun _ _ _ h => h) (hS.out) rfl
        · (rintro W ⟨s0, s1, s2, s3, s4, s5, s6, s7, s8, s9, s10, s11⟩; go_simp; try rfl)
        · (go_simp; try rfl)
        apply rg_take 16 rfl (by kernel_rfl) (fun _ _ _ h => h) (hS.out) rfl
        · (rintro W ⟨s0, s1, s2, s3, s4, s5, s6, s7, s8, s9, s10, s11⟩; go_simp; try rfl)
        · (go_simp; try rfl)
        apply rg_take 17 rfl (by kernel_rfl) (fun _ _ _ h => h) (hS.out) rfl
        · (rintro W ⟨s0, s1, s2, s3, s4, s5, s6, s7, s8, s9, s10, s11⟩; go_simp; try rfl)
        · (go_simp; try rfl)
        apply rg_take 18 rfl (by kernel_rfl) (fun _ _ _ h => h) (hS.out) rfl
        · (rintro W ⟨s0, s1, s2, s3, s4, s5, s6, s7, s8, s9, s10, s11⟩; go_simp; try rfl)
        · (go_simp; try rfl)
        apply rg_take 19 rfl (by kernel_rfl) (fun _ _ _ h => h) (hS.out) rfl
        · (rintro W ⟨s0, s1, s2, s3, s4, s5, s6, s7, s8, s9, s10, s11⟩; go_simp; try rfl)
        · (go_simp; try rfl)
        apply rg_take 20 rfl (by kernel_rfl) (fun _ _ _ h => h) (hS.out) rfl
        · (rintro W ⟨s0, s1, s2, s3, s4, s5, s6, s7, s8, s9, s10, s11⟩; go_simp; try rfl)
        · (go_simp; try rfl)
        apply rg_take 21 rfl (by kernel_rfl) (fun _ _ _ h => h) (hS.out) rfl
        · (rintro W ⟨s0, s1, s2, s3, s4, s5, s6, s7, s8, s9, s10, s11⟩; go_simp; try rfl)
        · (go_simp; try rfl)
        apply rg_take 22 rfl (by kernel_rfl) (fun _ _ _ h => h) (hS.out) rfl
        · (rintro W ⟨s0, s1, s2, s3, s4, s5, s6, s7, s8, s9, s10, s11⟩; go_simp; try rfl)
        · (go_simp; try rfl)
        apply rg_take 23 rfl (by kernel_rfl) (fun _ _ _ h => h) (hS.out) rfl
        · (rintro W ⟨s0, s1, s2, s3, s4, s5, s6, s7, s8, s9, s10, s11⟩; go_simp; try rfl)
        · (go_simp; try rfl)
        apply rg_take 24 rfl (by kernel_rfl) (fun _ _ _ h => h) (hS.out) rfl
        · (rintro W ⟨s0, s1, s2, s3, s4, s5, s6, s7, s8, s9, s10, s11⟩; go_simp; try rfl)
        · (go_simp; try rfl)
        apply rg_take 25 rfl (by kernel_rfl) (fun _ _ _ h => h) (hS.out) rfl
        · (rintro W ⟨s0, s1, s2, s3, s4, s5, s6, s7, s8, s9, s10, s11⟩; go_simp; try rfl)
        · (go_simp; try rfl)
        refine rg_only 26 (by kernel_rfl) rfl (fun K hK => ?_)
        go_simp
        refine (bytes_any _ _ A.cells[k].bytes A.cells[k].bytes _ _ _ Z3.out Z5.out hbA.out).mono ?_
        rw [show decide (A.cells[k].bytes = A.cells[k].bytes) = true by simp]
        rintro e w13 ⟨rfl, hB13⟩
        have hBt := hBd.out.trans (hB13.mono hBd.out.size)
        have hS13 := Lib.hid (show (∀ i, w13.cell? ⟨w3.heap.size, i, none⟩ = #[Value.slice (some ⟨b3, o3, none⟩) A.cells.length nc3, .slice Ak3 A.cache.length nk3, .int .i64 A.reqs, .int .i64 A.left][i]?) ∧ (∀ i, w13.cell? ⟨w5.heap.size, i, none⟩ = #[Value.slice (some ⟨b5, o5, none⟩) B.cells.length nc5, .slice Ak5 B.cache.length nk5, .int .i64 B.reqs, .int .i64 B.left][i]?) ∧ (∀ i, w13.cell? ⟨w7.heap.size, i, none⟩ = #[Value.slice (some ⟨b7, o7, none⟩) C.cells.length nc7, .slice Ak7 C.cache.length nk7, .int .i64 C.reqs, .int .i64 C.left][i]?) ∧ (∀ i, w13.cell? ⟨w.heap.size, i, none⟩ = #[Value.slice (some ⟨b0, o0, none⟩) d.cells.length nc0, .slice Ak0 d.cache.length nk0, .int .i64 d.reqs, .int .i64 d.left][i]?) ∧ w13.cell? ⟨b3, o3 + k * 3, none⟩ = some (.int .i64 A.cells[k].state) ∧ w13.cell? ⟨b3, o3 + k * 3 + 1, none⟩ = some (.slice ab3 A.cells[k].bytes.length cb3) ∧ w13.cell? ⟨b5, o5 + k * 3, none⟩ = some (.int .i64 A.cells[k].state) ∧ w13.cell? ⟨b5, o5 + k * 3 + 1, none⟩ = some (.slice ab5 A.cells[k].bytes.length cb5) ∧ w13.cell? ⟨b7, o7 + k * 3, none⟩ = some (.int .i64 d.cells[k].state) ∧ w13.cell? ⟨b7, o7 + k * 3 + 1, none⟩ = some (.slice ab7 d.cells[k].bytes.length cb7) ∧ w13.cell? ⟨b0, o0 + k * 3, none⟩ = some (.int .i64 d.cells[k].state) ∧ w13.cell? ⟨b0, o0 + k * 3 + 1, none⟩ = some (.slice ab0 d.cells[k].bytes.length cb0) from ⟨(XA11.out.blk.below hBt).cell, (XB11.out.blk.below hBt).cell, (XC11.out.blk.below hBt).cell, (X11.out.blk.below hBt).cell, below_cell hB13 hS.out.2.2.2.2.1, below_cell hB13 hS.out.2.2.2.2.2.1, below_cell hB13 hS.out.2.2.2.2.2.2.1, below_cell hB13 hS.out.2.2.2.2.2.2.2.1, below_cell hB13 hS.out.2.2.2.2.2.2.2.2.1, below_cell hB13 hS.out.2.2.2.2.2.2.2.2.2.1, below_cell hB13 hS.out.2.2.2.2.2.2.2.2.2.2.1, below_cell hB13 hS.out.2.2.2.2.2.2.2.2.2.2.2⟩)
        have Z7' := Lib.hid (Z7.out.mono (Keep.below hB13))
        have Z0' := Lib.hid (Z0.out.mono (Keep.below hB13))
        have hBt' := Lib.hid hBt
        clear hBt hB13
        refine hK _ _ ⟨fun _ => hS13.out, ?_⟩; clear hK K
        apply rg_take 27 rfl (by kernel_rfl) (fun _ _ _ h => h) (hS13.out) rfl
        · (rintro W ⟨s0, s1, s2, s3, s4, s5, s6, s7, s8, s9, s10, s11⟩; go_simp; try rfl)
        · (go_simp; try rfl)
        apply rg_take 28 rfl (by kernel_rfl) (fun _ _ _ h => h) (hS13.out) rfl
        · (rintro W ⟨s0, s1, s2, s3, s4, s5, s6, s7, s8, s9, s10, s11⟩; go_simp; try rfl)
        · (go_simp; try rfl)
        apply rg_take 29 rfl (by kernel_rfl) (fun _ _ _ h => h) (hS13.out) rfl
        · (rintro W ⟨s0, s1, s2, s3, s4, s5, s6, s7, s8, s9, s10, s11⟩; go_simp; try rfl)
        · (go_simp; try rfl)
        apply rg_take 30 rfl (by kernel_rfl) (fun _ _ _ h => h) (hS13.out) rfl
        · (rintro W ⟨s0, s1, s2, s3, s4, s5, s6, s7, s8, s9, s10, s11⟩; go_simp; try rfl)
        · (go_simp; try rfl)
        apply rg_take 31 rfl (by kernel_rfl) (fun _ _ _ h => h) (hS13.out) rfl
        · (rintro W ⟨s0, s1, s2, s3, s4, s5, s6, s7, s8, s9, s10, s11⟩; go_simp; try rfl)
        · (go_simp; try rfl)
        apply rg_take 32 rfl (by kernel_rfl) (fun _ _ _ h => h) (hS13.out) rfl
        · (rintro W ⟨s0, s1, s2, s3, s4, s5, s6, s7, s8, s9, s10, s11⟩; go_simp; try rfl)
        · (go_simp; try rfl)
        apply rg_take 33 rfl (by kernel_rfl) (fun _ _ _ h => h) (hS13.out) rfl
        · (rintro W ⟨s0, s1, s2, s3, s4, s5, s6, s7, s8, s9, s10, s11⟩; go_simp; try rfl)
        · (go_simp; try rfl)
        apply rg_take 34 rfl (by kernel_rfl) (fun _ _ _ h => h) (hS13.out) rfl
        · (rintro W ⟨s0, s1, s2, s3, s4, s5, s6, s7, s8, s9, s10, s11⟩; go_simp; try rfl)
        · (go_simp; try rfl)
        apply rg_take 35 rfl (by kernel_rfl) (fun _ _ _ h => h) (hS13.out) rfl
        · (rintro W ⟨s0, s1, s2, s3, s4, s5, s6, s7, s8, s9, s10, s11⟩; go_simp; try rfl)
        · (go_simp; try rfl)
        apply rg_take 36 rfl (by kernel_rfl) (fun _ _ _ h => h) (hS13.out) rfl
        · (rintro W ⟨s0, s1, s2, s3, s4, s5, s6, s7, s8, s9, s10, s11⟩; go_simp; try rfl)
        · (go_simp; try rfl)
        apply rg_take 37 rfl (by kernel_rfl) (fun _ _ _ h => h) (hS13.out) rfl
        · (rintro W ⟨s0, s1, s2, s3, s4, s5, s6, s7, s8, s9, s10, s11⟩; go_simp; try rfl)
        · (go_simp; try rfl)
        apply rg_take 38 rfl (by kernel_rfl) (fun _ _ _ h => h) (hS13.out) rfl
        · (rintro W ⟨s0, s1, s2, s3, s4, s5, s6, s7, s8, s9, s10, s11⟩; go_simp; try rfl)
        · (go_simp; try rfl)
        apply rg_take 39 rfl (by kernel_rfl) (fun _ _ _ h => h) (hS13.out) rfl
        · (rintro W ⟨s0, s1, s2, s3, s4, s5, s6, s7, s8, s9, s10, s11⟩; go_simp; try rfl)
        · (go_simp; try rfl)
        apply rg_take 40 rfl (by kernel_rfl) (fun _ _ _ h => h) (hS13.out) rfl
        · (rintro W ⟨s0, s1, s2, s3, s4, s5, s6, s7, s8, s9, s10, s11⟩; go_simp; try rfl)
        · (go_simp; try rfl)
        apply rg_take 41 rfl (by kernel_rfl) (fun _ _ _ h => h) (hS13.out) rfl
        · (rintro W ⟨s0, s1, s2, s3, s4, s5, s6, s7, s8, s9, s10, s11⟩; go_simp; try rfl)
        · (go_simp; try rfl)
        apply rg_take 42 rfl (by kernel_rfl) (fun _ _ _ h => h) (hS13.out) rfl
        · (rintro W ⟨s0, s1, s2, s3, s4, s5, s6, s7, s8, s9, s10, s11⟩; go_simp; try rfl)
        · (go_simp; try rfl)
        apply rg_take 43 rfl (by kernel_rfl) (fun _ _ _ h => h) (hS13.out) rfl
        · (rintro W ⟨s0, s1, s2, s3, s4, s5, s6, s7, s8, s9, s10, s11⟩; go_simp; try rfl)
        · (go_simp; try rfl)
        apply rg_take 44 rfl (by kernel_rfl) (fun _ _ _ h => h) (hS13.out) rfl
        · (rintro W ⟨s0, s1, s2, s3, s4, s5, s6, s7, s8, s9, s10, s11⟩; go_simp; try rfl)
        · (go_simp; try rfl)
        apply rg_take 45 rfl (by kernel_rfl) (fun _ _ _ h => h) (hS13.out) rfl
        · (rintro W ⟨s0, s1, s2, s3, s4, s5, s6, s7, s8, s9, s10, s11⟩; go_simp; try rfl)
        · (go_simp; try rfl)
        apply rg_take 46 rfl (by kernel_rfl) (fun _ _ _ h => h) (hS13.out) rfl
        · (rintro W ⟨s0, s1, s2, s3, s4, s5, s6, s7, s8, s9, s10, s11⟩; go_simp; try rfl)
        · (go_simp; try rfl)
        apply rg_take 47 rfl (by kernel_rfl) (fun _ _ _ h => h) (hS13.out) rfl
        · (rintro W ⟨s0, s1, s2, s3, s4, s5, s6, s7, s8, s9, s10, s11⟩; go_simp; try rfl)
        · (go_simp; try rfl)
        apply rg_take 48 rfl (by kernel_rfl) (fun _ _ _ h => h) (hS13.out) rfl
        · (rintro W ⟨s0, s1, s2, s3, s4, s5, s6, s7, s8, s9, s10, s11⟩; go_simp; try rfl)
        · (go_simp; try rfl)
        apply rg_take 49 rfl (by kernel_rfl) (fun _ _ _ h => h) (hS13.out) rfl
        · (rintro W ⟨s0, s1, s2, s3, s4, s5, s6, s7, s8, s9, s10, s11⟩; go_simp; try rfl)
        · (go_simp; try rfl)
        apply rg_take 50 rfl (by kernel_rfl) (fun _ _ _ h => h) (hS13.out) rfl
        · (rintro W ⟨s0, s1, s2, s3, s4, s5, s6, s7, s8, s9, s10, s11⟩; go_simp; try rfl)
        · (go_simp; try rfl)
        apply rg_take 51 rfl (by kernel_rfl) (fun _ _ _ h => h) (hS13.out) rfl
        · (rintro W ⟨s0, s1, s2, s3, s4, s5, s6, s7, s8, s9, s10, s11⟩; go_simp; try rfl)
        · (go_simp; try rfl)
        apply rg_take 52 rfl (by kernel_rfl) (fun _ _ _ h => h) (hS13.out) rfl
        · (rintro W ⟨s0, s1, s2, s3, s4, s5, s6, s7, s8, s9, s10, s11⟩; go_simp; try rfl)
        · (go_simp; try rfl)
        apply rg_take 53 rfl (by kernel_rfl) (fun _ _ _ h => h) (hS13.out) rfl
        · (rintro W ⟨s0, s1, s2, s3, s4, s5, s6, s7, s8, s9, s10, s11⟩; go_simp; try rfl)
        · (go_simp; try rfl)
        apply rg_take 54 rfl (by kernel_rfl) (fun _ _ _ h => h) (hS13.out) rfl
        · (rintro W ⟨s0, s1, s2, s3, s4, s5, s6, s7, s8, s9, s10, s11⟩; go_simp; try rfl)
        · (go_simp; try rfl)
        apply rg_take 55 rfl (by kernel_rfl) (fun _ _ _ h => h) (hS13.out) rfl
        · (rintro W ⟨s0, s1, s2, s3, s4, s5, s6, s7, s8, s9, s10, s11⟩; go_simp; try rfl)
        · (go_simp; try rfl)
        apply rg_take 56 rfl (by kernel_rfl) (fun _ _ _ h => h) (hS13.out) rfl
        · (rintro W ⟨s0, s1, s2, s3, s4, s5, s6, s7, s8, s9, s10, s11⟩; go_simp; try rfl)
        · (go_simp; try rfl)
        refine rg_only 57 (by kernel_rfl) rfl (fun K hK => ?_)
        go_simp
        refine (bytes_any _ _ d.cells[k].bytes d.cells[k].bytes _ _ _ Z7'.out Z0'.out hbD.out).mono ?_
        rw [show decide (d.cells[k].bytes = d.cells[k].bytes) = true by simp]
        rintro e w14 ⟨rfl, hB14⟩
        have hBt := hBt'.out.trans (hB14.mono hBt'.out.size)
        have hS14 := Lib.hid (show (∀ i, w14.cell? ⟨w3.heap.size, i, none⟩ = #[Value.slice (some ⟨b3, o3, none⟩) A.cells.length nc3, .slice Ak3 A.cache.length nk3, .int .i64 A.reqs, .int .i64 A.left][i]?) ∧ (∀ i, w14.cell? ⟨w5.heap.size, i, none⟩ = #[Value.slice (some ⟨b5, o5, none⟩) B.cells.length nc5, .slice Ak5 B.cache.length nk5, .int .i64 B.reqs, .int .i64 B.left][i]?) ∧ (∀ i, w14.cell? ⟨w7.heap.size, i, none⟩ = #[Value.slice (some ⟨b7, o7, none⟩) C.cells.length nc7, .slice Ak7 C.cache.length nk7, .int .i64 C.reqs, .int .i64 C.left][i]?) ∧ (∀ i, w14.cell? ⟨w.heap.size, i, none⟩ = #[Value.slice (some ⟨b0, o0, none⟩) d.cells.length nc0, .slice Ak0 d.cache.length nk0, .int .i64 d.reqs, .int .i64 d.left][i]?) ∧ w14.cell? ⟨b3, o3 + k * 3, none⟩ = some (.int .i64 A.cells[k].state) ∧ w14.cell? ⟨b3, o3 + k * 3 + 1, none⟩ = some (.slice ab3 A.cells[k].bytes.length cb3) ∧ w14.cell? ⟨b5, o5 + k * 3, none⟩ = some (.int .i64 A.cells[k].state) ∧ w14.cell? ⟨b5, o5 + k * 3 + 1, none⟩ = some (.slice ab5 A.cells[k].bytes.length cb5) ∧ w14.cell? ⟨b7, o7 + k * 3, none⟩ = some (.int .i64 d.cells[k].state) ∧ w14.cell? ⟨b7, o7 + k * 3 + 1, none⟩ = some (.slice ab7 d.cells[k].bytes.length cb7) ∧ w14.cell? ⟨b0, o0 + k * 3, none⟩ = some (.int .i64 d.cells[k].state) ∧ w14.cell? ⟨b0, o0 + k * 3 + 1, none⟩ = some (.slice ab0 d.cells[k].bytes.length cb0) from ⟨(XA11.out.blk.below hBt).cell, (XB11.out.blk.below hBt).cell, (XC11.out.blk.below hBt).cell, (X11.out.blk.below hBt).cell, below_cell hB14 hS13.out.2.2.2.2.1, below_cell hB14 hS13.out.2.2.2.2.2.1, below_cell hB14 hS13.out.2.2.2.2.2.2.1, below_cell hB14 hS13.out.2.2.2.2.2.2.2.1, below_cell hB14 hS13.out.2.2.2.2.2.2.2.2.1, below_cell hB14 hS13.out.2.2.2.2.2.2.2.2.2.1, below_cell hB14 hS13.out.2.2.2.2.2.2.2.2.2.2.1, below_cell hB14 hS13.out.2.2.2.2.2.2.2.2.2.2.2⟩)
        have hBt'' := Lib.hid hBt
        clear hBt hB14
        refine hK _ _ ⟨fun _ => hS14.out, ?_⟩; clear hK K
        apply rg_take 58 rfl (by kernel_rfl) (fun _ _ _ h => h) (hS14.out) rfl
        · (rintro W ⟨s0, s1, s2, s3, s4, s5, s6, s7, s8, s9, s10, s11⟩; go_simp; try rfl)
        · (go_simp; try rfl)
        apply rg_take 59 rfl (by kernel_rfl) (fun _ _ _ h => h) (hS14.out) rfl
        · (rintro W ⟨s0, s1, s2, s3, s4, s5, s6, s7, s8, s9, s10, s11⟩; go_simp; try rfl)
        · (go_simp; try rfl)
        refine rg_done (by kernel_rfl) ?_
        go_wp2
        go_roundw
        case rel => exact ⟨k + 1, by omega, by go_num, hBt''.out⟩
        case measure => simp [intOf]; omega
      · obtain rfl : k = d.cells.length := by omega
        have y5 := (XX11.out.blk.below hB).cell
        have y6 := (XY.out.blk.below hB).cell
        have y7 := (XA11.out.blk.below hB).cell
        rw [E5.out] at y7
        have hXX := Lib.hid (XX11.out.rv.below hB)
        have hYY := Lib.hid (XY.out.rv.below hB)
        have BB := Lib.hid (B11.out.trans (hB.mono B11.out.size))
        have hlA := (XA11.out.blk.below hB)
        have hyA := Lib.hid hlA
        clear hB hlA y7
        go_wp2_with fail
        refine (disk_any _ _ X X _ _ _ hXX.out hYY.out OX.out).mono ?_
        rw [show decide (X = X) = true by simp]
        rintro e w13 ⟨rfl, hB13⟩
        have y8 := (hyA.out.below hB13).cell
        rw [E5.out] at y8
        go_wp2_with fail
        refine (wakes_any _).mono ?_
        rintro e w14 ⟨rfl, hB14⟩
        go_wp2
        go_ret
        exact ⟨rfl, (BB.out.trans (hB13.mono BB.out.size)).trans (hB14.mono (Nat.le_trans BB.out.size hB13.size))⟩
end Go.Proofs.Ytkdjacmabeeceaa
