/-
The law DiskReads: a read answers the same twice, what is written is read, what is flushed is read.
-/
import Derived.Test.YtkdjacmabeeceaaReads0
import Derived.Test.YtkdjacmabeeceaaSame
namespace Go.Proofs.Ytkdjacmabeeceaa
open Go.RowKit
attribute [local go_sem ↓] Go.wp_at_zero Go.wp_at_succ

theorem umod_nat {z : Int} {n : Nat} (hz : 0 ≤ z) (h1 : 1 ≤ n) (h3 : n ≤ 300) : ∃ a : Nat, IntKind.i64.wrap (z.tmod n) = a ∧ a < n := by
  have e1 := Int.emod_nonneg z (show (n : Int) ≠ 0 by omega)
  have e2 := Int.emod_lt_of_pos z (show 0 < (n : Int) by omega)
  refine ⟨(z % (n : Int)).toNat, ?_, by omega⟩
  rw [Int.tmod_eq_emod_of_nonneg hz, IntKind.wrap_i64]
  omega
theorem BoxD.up {w w' : World} {b : Nat} {c k : Value} {d : Dis} (h : BoxD w b c k d) (hB : Below w.heap.size w w') : BoxD w' b c k d := h.below hB
theorem Below.up {w w' w'' : World} (h : Below w.heap.size w w') (hB : Below w'.heap.size w' w'') : Below w.heap.size w w'' := h.trans (hB.mono h.size)
theorem SlR.up {α : Type} [Rp α] {w w' : World} {v : Value} {l : List α} (h : SlR w noM v l) (hB : Below w.heap.size w w') : SlR w' noM v l := h.mono (Keep.below hB)
set_option maxRecDepth 100000 in
set_option maxHeartbeats 16000000 in
theorem reads_any (v vx : Value) (d : Dis) (a0 b0 : Int) (x : List UInt8) (w : World) (h : Rv w noM v d) (hx : SlR w noM vx x) :
    Calls Try.prog 6 #[v, .int .i64 a0, .int .i64 b0, vx] w fun e w' => e = .returned (.bool true) ∧ Below w.heap.size w w' := by
  obtain ⟨Ac0, nc0, Ak0, nk0, rfl⟩ := dis_form h
  obtain ⟨ax, cx, rfl⟩ := hx.form
  have hB0 := Lib.hid ((Below.refl w.heap.size w).alloc (Nat.le_refl _) (.cells #[.slice Ac0 d.cells.length nc0, .slice Ak0 d.cache.length nk0, .int .i64 d.reqs, .int .i64 d.left] 27))
  have X0 := Lib.hid (BoxD.new h)
  have SX := Lib.hid hx
  clear h hx
  go_enter Try.func6, Try.ntmps6
  go_wp2_with fail
  generalize w.alloc (.cells #[.slice Ac0 d.cells.length nc0, .slice Ak0 d.cache.length nk0, .int .i64 d.reqs, .int .i64 d.left] 27) = w0 at *
  refine (heavy_any _ d w0 noM X0.out.rv).mono ?_
  rintro e w1 ⟨⟨hb, rfl, hf⟩, hB1⟩
  have X1 := Lib.hid (X0.out.below hB1)
  have B1 := Lib.hid (hB0.out.trans (hB1.mono hB0.out.size))
  have c1 := X1.out.blk.cell
  clear X0 hB0 hB1
  cases hb
  case true =>
    go_wp2
    go_ret
    exact ⟨rfl, B1.out⟩
  clear hf
  go_wp2_with fail
  clear c1
  refine (right_any _ d w1 noM X1.out.rv).mono ?_
  rintro e w2 ⟨rfl, hB2⟩
  have X2 := Lib.hid (X1.out.below hB2)
  have B2 := Lib.hid (B1.out.trans (hB2.mono B1.out.size))
  obtain ⟨c2, -, l2⟩ := X2.out.blk.all
  clear X1 B1 hB2
  cases hD : disB d
  · clear hD
    go_wp2
    go_ret
    exact ⟨rfl, B2.out⟩
  have HD := Lib.hid hD
  clear hD
  by_cases hx2 : x.length ≤ 200
  case neg =>
    have hx2' : (200 : Int) < x.length := by omega
    go_wp2
    go_ret
    exact ⟨rfl, B2.out⟩
  have hx2' : ¬ (200 : Int) < x.length := by omega
  by_cases hl0 : 0 ≤ d.left ∧ d.left < 5
  · have hl1 := hl0.1
    have hl2 := hl0.2
    go_wp2
    go_ret
    exact ⟨rfl, B2.out⟩
  by_cases hcc : d.cache.length < 50
  case neg =>
    have hcc' : (50 : Int) ≤ d.cache.length := by omega
    rcases (show d.left < 0 ∨ (0 ≤ d.left ∧ ¬ d.left < 5) by omega) with hn | ⟨hn, hn'⟩
    all_goals
      go_wp2
      go_ret
      exact ⟨rfl, B2.out⟩
  have hcc' : ¬ (50 : Int) ≤ d.cache.length := by omega
  have OD := Lib.hid (okD_iff.1 HD.out)
  have hn1 : 1 ≤ d.cells.length := OD.out.1.1
  have hn3 : d.cells.length ≤ 300 := OD.out.1.2.1
  rcases (show d.left < 0 ∨ (0 ≤ d.left ∧ ¬ d.left < 5) by omega) with hn | ⟨hn, hn'⟩
  all_goals
    go_wp2_with fail
    clear c2
    refine rg_enter [] (fun _ => True) (by kernel_rfl) ?_
    have hnz : ¬ d.cells = [] := fun e => by rw [e] at hn1; simp at hn1
    apply rg_pure 0 rfl (by kernel_rfl) (fun _ _ _ h => h) rfl
    · (intro W; go_simp; try rfl)
    · (go_simp; try rfl)
    apply rg_pure 1 rfl (by kernel_rfl) (fun _ _ _ h => h) rfl
    · (intro W; go_simp; try rfl)
    · (go_simp; try rfl)
    apply rg_pure 2 rfl (by kernel_rfl) (fun _ _ _ h => h) rfl
    · (intro W; go_simp; try rfl)
    · (go_simp; try rfl)
    apply rg_pure 3 rfl (by kernel_rfl) (fun _ _ _ h => h) rfl
    · (intro W; go_simp; try rfl)
    · (go_simp; try rfl)
    apply rg_pure 4 rfl (by kernel_rfl) (fun _ _ _ h => h) rfl
    · (intro W; go_simp; try rfl)
    · (go_simp; try rfl)
    apply rg_pure 5 rfl (by kernel_rfl) (fun _ _ _ h => h) rfl
    · (intro W; go_simp; try rfl)
    · (go_simp; try rfl)
    apply rg_pure 6 rfl (by kernel_rfl) (fun _ _ _ h => h) rfl
    · (intro W; go_simp; try rfl)
    · (go_simp; try rfl)
    apply rg_pure 7 rfl (by kernel_rfl) (fun _ _ _ h => h) rfl
    · (intro W; go_simp; try rfl)
    · (go_simp; try rfl)
    apply rg_pure 8 rfl (by kernel_rfl) (fun _ _ _ h => h) rfl
    · (intro W; go_simp; try rfl)
    · (go_simp; try rfl)
    apply rg_pure 9 rfl (by kernel_rfl) (fun _ _ _ h => h) rfl
    · (intro W; go_simp; try rfl)
    · (go_simp; try rfl)
    apply rg_pure 10 rfl (by kernel_rfl) (fun _ _ _ h => h) rfl
    · (intro W; go_simp; try rfl)
    · (go_simp; try rfl)
    apply rg_pure 11 rfl (by kernel_rfl) (fun _ _ _ h => h) rfl
    · (intro W; go_simp; try rfl)
    · (go_simp; try rfl)
    refine rg_done (by kernel_rfl) ?_
    have hwa : 0 ≤ IntKind.u64.wrap a0 := by rw [IntKind.wrap_u64]; omega
    have hwb : 0 ≤ IntKind.u64.wrap b0 := by rw [IntKind.wrap_u64]; omega
    obtain ⟨a, ha, ha'⟩ := umod_nat hwa hn1 hn3
    obtain ⟨b, hb, hb'⟩ := umod_nat hwb hn1 hn3
    simp only [ha, hb]
    obtain ⟨R, S, W, W2, L, L2, y, u, v, e, g, h, j, q1, q2, q3, q4, q5, q6, q7, q8, q9, q10, q11, q12, oR, oS, oW, oW2, oL, oL2, ly, lu, lv⟩ := reads_facts HD.out hx2 hl0 hcc ha' hb'
    have Q1 := Lib.hid q1
    have Q2 := Lib.hid q2
    have Q3 := Lib.hid q3
    have Q4 := Lib.hid q4
    have Q5 := Lib.hid q5
    have Q6 := Lib.hid q6
    have Q7 := Lib.hid q7
    have Q8 := Lib.hid q8
    have Q9 := Lib.hid q9
    have Q10 := Lib.hid q10
    have Q11 := Lib.hid q11
    have Q12 := Lib.hid q12
    have OR := Lib.hid oR.sm
    have OW := Lib.hid oW.sm
    have OL := Lib.hid oL.sm
    have ODs := Lib.hid OD.out.sm
    have hd1 : d.cells.length ≤ 1000000000 := ODs.out.1
    have hd2 : d.cache.length ≤ 1000000000 := ODs.out.2.1
    have X3 := Lib.hid (X2.out.below (below_drew w2))
    have B3 := Lib.hid B2.out.drew
    have SX3 := Lib.hid ((SX.out.mono (Keep.below B2.out)).mono (Keep.below (below_drew w2)))
    have Ls := Lib.hid (And.intro ly (And.intro lu lv))
    clear q1 q2 q3 q4 q5 q6 q7 q8 q9 q10 q11 q12 oR oS oW oW2 oL oL2 ha hb hwa hwb hnz X2 B2 SX l2 ly lu lv
    generalize w2.drew = w3 at *
    obtain ⟨c3, -, l3⟩ := X3.out.blk.all
    go_wp2_with fail
    clear c3 l3
    refine (tread_any _ d a w3 noM X3.out.rv (noMok _) hd1 hd2).mono ?_
    rw [Q1.out]
    dsimp only
    rintro q w4 ⟨r4, s4, rfl, hr4, hs4, hB4⟩
    obtain ⟨Ac4, nc4, Ak4, nk4, rfl⟩ := dis_form hr4
    obtain ⟨as4, cs4, rfl⟩ := hs4.form
    have hal := (Below.refl w4.heap.size w4).alloc (Nat.le_refl _) (.cells #[.slice Ac4 R.cells.length nc4, .slice Ak4 R.cache.length nk4, .int .i64 R.reqs, .int .i64 R.left] 27)
    have XR := Lib.hid (BoxD.new hr4)
    have SY := Lib.hid (SlR.up hs4 hal)
    replace X3 := Lib.hid (BoxD.up X3.out (Below.up hB4 hal))
    replace B3 := Lib.hid (Below.up B3.out (Below.up hB4 hal))
    replace SX3 := Lib.hid (SlR.up SX3.out (Below.up hB4 hal))
    clear hr4 hs4 hB4 hal
    go_wp2_with fail
    generalize w4.alloc (.cells #[.slice Ac4 R.cells.length nc4, .slice Ak4 R.cache.length nk4, .int .i64 R.reqs, .int .i64 R.left] 27) = w5 at *
    refine (tread_any _ R a w5 noM XR.out.rv (noMok _) OR.out.1 OR.out.2.1).mono ?_
    rw [Q2.out]
    dsimp only
    rintro q w6 ⟨r6, s6, rfl, hr6, hs6, hB6⟩
    obtain ⟨Ac6, nc6, Ak6, nk6, rfl⟩ := dis_form hr6
    obtain ⟨as6, cs6, rfl⟩ := hs6.form
    have hal := (Below.refl w6.heap.size w6).alloc (Nat.le_refl _) (.cells #[.slice Ac6 S.cells.length nc6, .slice Ak6 S.cache.length nk6, .int .i64 S.reqs, .int .i64 S.left] 27)
    have XS := Lib.hid (BoxD.new hr6)
    have SZ := Lib.hid (SlR.up hs6 hal)
    replace X3 := Lib.hid (BoxD.up X3.out (Below.up hB6 hal))
    replace B3 := Lib.hid (Below.up B3.out (Below.up hB6 hal))
    replace SX3 := Lib.hid (SlR.up SX3.out (Below.up hB6 hal))
    replace XR := Lib.hid (BoxD.up XR.out (Below.up hB6 hal))
    replace SY := Lib.hid (SlR.up SY.out (Below.up hB6 hal))
    obtain ⟨c6, -, l6⟩ := X3.out.blk.all
    obtain ⟨c4, -, l4⟩ := XR.out.blk.all
    have x1 : (e != e) = false := by simp
    clear hr6 hs6 hB6 hal
    go_wp2_with fail
    clear c6 l6 c4 l4
    generalize w6.alloc (.cells #[.slice Ac6 S.cells.length nc6, .slice Ak6 S.cache.length nk6, .int .i64 S.reqs, .int .i64 S.left] 27) = w7 at *
    refine (bytes_any _ _ y y _ _ _ SY.out SZ.out (by have := Ls.out; omega)).mono ?_
    rw [show decide (y = y) = true by simp]
    rintro q w8 ⟨rfl, hB8⟩
    replace X3 := Lib.hid (BoxD.up X3.out hB8)
    replace B3 := Lib.hid (Below.up B3.out hB8)
    replace SX3 := Lib.hid (SlR.up SX3.out hB8)
    replace XR := Lib.hid (BoxD.up XR.out hB8)
    replace SY := Lib.hid (SlR.up SY.out hB8)
    replace XS := Lib.hid (BoxD.up XS.out hB8)
    replace SZ := Lib.hid (SlR.up SZ.out hB8)
    clear hB8
    obtain ⟨c6, -, l6⟩ := X3.out.blk.all
    obtain ⟨c4, -, l4⟩ := XR.out.blk.all
    obtain ⟨c5, -, l5⟩ := XS.out.blk.all
    have x2 : ((R.cells.length : Int) != d.cells.length) = false := by simp [Q7.out]
    go_wp2_with fail
    clear c6 l6 c4 l4 c5 l5 x1 x2
    refine (writes_any _ _ S.cache d.cache _ _ _ (rv_agg XS.out.rv).2 (rv_agg X3.out.rv).2 (by rw [Q8.out]; exact hd2) (fun z hz => ODs.out.2.2.2 z (Q8.out ▸ hz))).mono ?_
    rw [show decide (S.cache = d.cache) = true by simp [Q8.out]]
    rintro q w9 ⟨rfl, hB9⟩
    replace X3 := Lib.hid (BoxD.up X3.out hB9)
    replace B3 := Lib.hid (Below.up B3.out hB9)
    replace SX3 := Lib.hid (SlR.up SX3.out hB9)
    replace SY := Lib.hid (SlR.up SY.out hB9)
    clear hB9 XR XS SZ
    obtain ⟨c9, -, l9⟩ := X3.out.blk.all
    go_wp2_with fail
    clear c9 l9
    refine (twrite_any _ _ d b x w9 noM X3.out.rv SX3.out (noMok _) hd1 hd2 (by omega)).mono ?_
    rw [Q3.out]
    dsimp only
    rintro q w10 ⟨r10, rfl, hr10, hB10⟩
    obtain ⟨Ac10, nc10, Ak10, nk10, rfl⟩ := dis_form hr10
    have hal := (Below.refl w10.heap.size w10).alloc (Nat.le_refl _) (.cells #[.slice Ac10 W.cells.length nc10, .slice Ak10 W.cache.length nk10, .int .i64 W.reqs, .int .i64 W.left] 27)
    have XW := Lib.hid (BoxD.new hr10)
    replace X3 := Lib.hid (BoxD.up X3.out (Below.up hB10 hal))
    replace B3 := Lib.hid (Below.up B3.out (Below.up hB10 hal))
    replace SX3 := Lib.hid (SlR.up SX3.out (Below.up hB10 hal))
    replace SY := Lib.hid (SlR.up SY.out (Below.up hB10 hal))
    clear hr10 hB10 hal
    go_wp2_with fail
    generalize w10.alloc (.cells #[.slice Ac10 W.cells.length nc10, .slice Ak10 W.cache.length nk10, .int .i64 W.reqs, .int .i64 W.left] 27) = w11 at *
    refine (tread_any _ W a w11 noM XW.out.rv (noMok _) OW.out.1 OW.out.2.1).mono ?_
    rw [Q4.out]
    dsimp only
    rintro q w12 ⟨r12, s12, rfl, hr12, hs12, hB12⟩
    obtain ⟨Ac12, nc12, Ak12, nk12, rfl⟩ := dis_form hr12
    obtain ⟨as12, cs12, rfl⟩ := hs12.form
    have hal := (Below.refl w12.heap.size w12).alloc (Nat.le_refl _) (.cells #[.slice Ac12 W2.cells.length nc12, .slice Ak12 W2.cache.length nk12, .int .i64 W2.reqs, .int .i64 W2.left] 27)
    have SU := Lib.hid (SlR.up hs12 hal)
    obtain ⟨c12, -, l12⟩ := (BoxD.up X3.out hB12).blk.all
    replace X3 := Lib.hid (BoxD.up X3.out (Below.up hB12 hal))
    replace B3 := Lib.hid (Below.up B3.out (Below.up hB12 hal))
    replace SX3 := Lib.hid (SlR.up SX3.out (Below.up hB12 hal))
    replace SY := Lib.hid (SlR.up SY.out (Below.up hB12 hal))
    clear hr12 hs12 hB12 hal XW
    go_wp2_with fail
    clear c12 l12
    generalize w12.alloc (.cells #[.slice Ac12 W2.cells.length nc12, .slice Ak12 W2.cache.length nk12, .int .i64 W2.reqs, .int .i64 W2.left] 27) = w13 at *
    refine (tflush_any _ d w13 noM X3.out.rv (noMok _) hd1 hd2).mono ?_
    rw [Q5.out]
    dsimp only
    rintro q w14 ⟨r14, rfl, hr14, hB14⟩
    obtain ⟨Ac14, nc14, Ak14, nk14, rfl⟩ := dis_form hr14
    have hal := (Below.refl w14.heap.size w14).alloc (Nat.le_refl _) (.cells #[.slice Ac14 L.cells.length nc14, .slice Ak14 L.cache.length nk14, .int .i64 L.reqs, .int .i64 L.left] 27)
    have XL := Lib.hid (BoxD.new hr14)
    replace X3 := Lib.hid (BoxD.up X3.out (Below.up hB14 hal))
    replace B3 := Lib.hid (Below.up B3.out (Below.up hB14 hal))
    replace SX3 := Lib.hid (SlR.up SX3.out (Below.up hB14 hal))
    replace SY := Lib.hid (SlR.up SY.out (Below.up hB14 hal))
    replace SU := Lib.hid (SlR.up SU.out (Below.up hB14 hal))
    clear hr14 hB14 hal
    go_wp2_with fail
    generalize w14.alloc (.cells #[.slice Ac14 L.cells.length nc14, .slice Ak14 L.cache.length nk14, .int .i64 L.reqs, .int .i64 L.left] 27) = w15 at *
    refine (tread_any _ L a w15 noM XL.out.rv (noMok _) OL.out.1 OL.out.2.1).mono ?_
    rw [Q6.out]
    dsimp only
    rintro q w16 ⟨r16, s16, rfl, hr16, hs16, hB16⟩
    obtain ⟨Ac16, nc16, Ak16, nk16, rfl⟩ := dis_form hr16
    obtain ⟨as16, cs16, rfl⟩ := hs16.form
    have hal := (Below.refl w16.heap.size w16).alloc (Nat.le_refl _) (.cells #[.slice Ac16 L2.cells.length nc16, .slice Ak16 L2.cache.length nk16, .int .i64 L2.reqs, .int .i64 L2.left] 27)
    have SV := Lib.hid (SlR.up hs16 hal)
    replace X3 := Lib.hid (BoxD.up X3.out (Below.up hB16 hal))
    replace B3 := Lib.hid (Below.up B3.out (Below.up hB16 hal))
    replace SX3 := Lib.hid (SlR.up SX3.out (Below.up hB16 hal))
    replace SY := Lib.hid (SlR.up SY.out (Below.up hB16 hal))
    replace SU := Lib.hid (SlR.up SU.out (Below.up hB16 hal))
    clear hr16 hs16 hB16 hal XL
    clear Q1 Q2 Q3 Q4 Q5 Q6 Q7 Q8 OR OW OL
    obtain ⟨b0, o0, vb0, vo0, rfl, -, P, -, -, -, -⟩ := cel_at (rv_agg X3.out.rv).1 ha'
    have hyl : y.length ≤ 1000000000 := by have := Ls.out; omega
    have hul : u.length ≤ 1000000000 := by have := Ls.out; omega
    have hvl : v.length ≤ 1000000000 := by have := Ls.out; omega
    have ha3 : (a : Int) < d.cells.length := by omega
    rcases (show (e = 0 ∧ d.cells[a].state ≠ 2) ∨ (e = 0 ∧ d.cells[a].state = 2) ∨ e ≠ 0 by omega) with ⟨he, hs⟩ | ⟨he, hs⟩ | he
    · have HV := Lib.hid (Q12.out he hs)
      have ze : (e == 0) = true := by simp [he]
      have zj : (j == 0) = true := by simp [HV.out.1]
      have zs : (d.cells[a].state != 2) = true := by simpa using hs
      clear hs
      clear he
      by_cases hab : a = b
      case neg =>
        have HU := Lib.hid (Q10.out hab)
        have z1 : ((a : Int) != b) = true := by simp; omega
        have z2 : ((a : Int) == b) = false := by simp; omega
        have z3 : (h != e) = false := by simp [HU.out.1]
        replace P := Lib.hid P
        rcases Q9.out with rfl | rfl
        all_goals
          obtain ⟨c17, -, l17⟩ := X3.out.blk.all
          have p17 := P.out
          go_wp2_with fail
          clear c17 l17 p17
          generalize w16.alloc (.cells #[.slice Ac16 L2.cells.length nc16, .slice Ak16 L2.cache.length nk16, .int .i64 L2.reqs, .int .i64 L2.left] 27) = w17 at *
          refine (bytes_any _ _ u y _ _ _ SU.out SY.out hul).mono ?_
          rw [show decide (u = y) = true by simp [HU.out.2]]
          rintro q w18 ⟨rfl, hB18⟩
          replace X3 := Lib.hid (BoxD.up X3.out hB18)
          replace B3 := Lib.hid (Below.up B3.out hB18)
          replace SY := Lib.hid (SlR.up SY.out hB18)
          replace SV := Lib.hid (SlR.up SV.out hB18)
          replace P := Lib.hid (below_cell hB18 P.out)
          clear hB18
          obtain ⟨c18, -, l18⟩ := X3.out.blk.all
          have p18 := P.out
          go_wp2_with fail
          clear c18 l18 p18
          refine (bytes_any _ _ v y _ _ _ SV.out SY.out hvl).mono ?_
          rw [show decide (v = y) = true by simp [HV.out.2]]
          rintro q w20 ⟨rfl, hB20⟩
          replace B3 := Lib.hid (Below.up B3.out hB20)
          clear hB20
          go_wp2_with fail
          refine (wakes_any _).mono ?_
          rintro q w21 ⟨rfl, hB21⟩
          go_wp2
          go_ret
          exact ⟨rfl, Below.up B3.out hB21⟩
      case pos =>
        subst hab
        have z1 : ((a : Int) != a) = false := by simp
        have z2 : ((a : Int) == a) = true := by simp
        replace P := Lib.hid P
        rcases Q9.out with rfl | rfl
        · have HU := Lib.hid (Q11.out rfl rfl)
          have z3 : (h != 0) = false := by simp [HU.out.1]
          obtain ⟨c17, -, l17⟩ := X3.out.blk.all
          have p17 := P.out
          go_wp2_with fail
          clear c17 l17 p17
          generalize w16.alloc (.cells #[.slice Ac16 L2.cells.length nc16, .slice Ak16 L2.cache.length nk16, .int .i64 L2.reqs, .int .i64 L2.left] 27) = w17 at *
          refine (bytes_any _ _ u x _ _ _ SU.out SX3.out hul).mono ?_
          rw [show decide (u = x) = true by simp [HU.out.2]]
          rintro q w18 ⟨rfl, hB18⟩
          replace X3 := Lib.hid (BoxD.up X3.out hB18)
          replace B3 := Lib.hid (Below.up B3.out hB18)
          replace SY := Lib.hid (SlR.up SY.out hB18)
          replace SV := Lib.hid (SlR.up SV.out hB18)
          replace P := Lib.hid (below_cell hB18 P.out)
          clear hB18
          obtain ⟨c18, -, l18⟩ := X3.out.blk.all
          have p18 := P.out
          go_wp2_with fail
          clear c18 l18 p18
          refine (bytes_any _ _ v y _ _ _ SV.out SY.out hvl).mono ?_
          rw [show decide (v = y) = true by simp [HV.out.2]]
          rintro q w20 ⟨rfl, hB20⟩
          replace B3 := Lib.hid (Below.up B3.out hB20)
          clear hB20
          go_wp2_with fail
          refine (wakes_any _).mono ?_
          rintro q w21 ⟨rfl, hB21⟩
          go_wp2
          go_ret
          exact ⟨rfl, Below.up B3.out hB21⟩
        · obtain ⟨c17, -, l17⟩ := X3.out.blk.all
          have p17 := P.out
          go_wp2_with fail
          clear c17 l17 p17
          generalize w16.alloc (.cells #[.slice Ac16 L2.cells.length nc16, .slice Ak16 L2.cache.length nk16, .int .i64 L2.reqs, .int .i64 L2.left] 27) = w17 at *
          refine (bytes_any _ _ v y _ _ _ SV.out SY.out hvl).mono ?_
          rw [show decide (v = y) = true by simp [HV.out.2]]
          rintro q w20 ⟨rfl, hB20⟩
          replace B3 := Lib.hid (Below.up B3.out hB20)
          clear hB20
          go_wp2_with fail
          refine (wakes_any _).mono ?_
          rintro q w21 ⟨rfl, hB21⟩
          go_wp2
          go_ret
          exact ⟨rfl, Below.up B3.out hB21⟩
    · have ze : (e == 0) = true := by simp [he]
      have zs : (d.cells[a].state != 2) = false := by simpa using hs
      clear hs
      clear he
      by_cases hab : a = b
      case neg =>
        have HU := Lib.hid (Q10.out hab)
        have z1 : ((a : Int) != b) = true := by simp; omega
        have z2 : ((a : Int) == b) = false := by simp; omega
        have z3 : (h != e) = false := by simp [HU.out.1]
        replace P := Lib.hid P
        rcases Q9.out with rfl | rfl
        all_goals
          obtain ⟨c17, -, l17⟩ := X3.out.blk.all
          have p17 := P.out
          go_wp2_with fail
          clear c17 l17 p17
          generalize w16.alloc (.cells #[.slice Ac16 L2.cells.length nc16, .slice Ak16 L2.cache.length nk16, .int .i64 L2.reqs, .int .i64 L2.left] 27) = w17 at *
          refine (bytes_any _ _ u y _ _ _ SU.out SY.out hul).mono ?_
          rw [show decide (u = y) = true by simp [HU.out.2]]
          rintro q w18 ⟨rfl, hB18⟩
          replace X3 := Lib.hid (BoxD.up X3.out hB18)
          replace B3 := Lib.hid (Below.up B3.out hB18)
          replace SY := Lib.hid (SlR.up SY.out hB18)
          replace SV := Lib.hid (SlR.up SV.out hB18)
          replace P := Lib.hid (below_cell hB18 P.out)
          clear hB18
          obtain ⟨c18, -, l18⟩ := X3.out.blk.all
          have p18 := P.out
          go_wp2_with fail
          clear c18 l18 p18
          refine (wakes_any _).mono ?_
          rintro q w21 ⟨rfl, hB21⟩
          go_wp2
          go_ret
          exact ⟨rfl, Below.up B3.out hB21⟩
      case pos =>
        subst hab
        have z1 : ((a : Int) != a) = false := by simp
        have z2 : ((a : Int) == a) = true := by simp
        replace P := Lib.hid P
        rcases Q9.out with rfl | rfl
        · have HU := Lib.hid (Q11.out rfl rfl)
          have z3 : (h != 0) = false := by simp [HU.out.1]
          obtain ⟨c17, -, l17⟩ := X3.out.blk.all
          have p17 := P.out
          go_wp2_with fail
          clear c17 l17 p17
          generalize w16.alloc (.cells #[.slice Ac16 L2.cells.length nc16, .slice Ak16 L2.cache.length nk16, .int .i64 L2.reqs, .int .i64 L2.left] 27) = w17 at *
          refine (bytes_any _ _ u x _ _ _ SU.out SX3.out hul).mono ?_
          rw [show decide (u = x) = true by simp [HU.out.2]]
          rintro q w18 ⟨rfl, hB18⟩
          replace X3 := Lib.hid (BoxD.up X3.out hB18)
          replace B3 := Lib.hid (Below.up B3.out hB18)
          replace SY := Lib.hid (SlR.up SY.out hB18)
          replace SV := Lib.hid (SlR.up SV.out hB18)
          replace P := Lib.hid (below_cell hB18 P.out)
          clear hB18
          obtain ⟨c18, -, l18⟩ := X3.out.blk.all
          have p18 := P.out
          go_wp2_with fail
          clear c18 l18 p18
          refine (wakes_any _).mono ?_
          rintro q w21 ⟨rfl, hB21⟩
          go_wp2
          go_ret
          exact ⟨rfl, Below.up B3.out hB21⟩
        · obtain ⟨c17, -, l17⟩ := X3.out.blk.all
          have p17 := P.out
          go_wp2_with fail
          clear c17 l17 p17
          generalize w16.alloc (.cells #[.slice Ac16 L2.cells.length nc16, .slice Ak16 L2.cache.length nk16, .int .i64 L2.reqs, .int .i64 L2.left] 27) = w17 at *
          refine (wakes_any _).mono ?_
          rintro q w21 ⟨rfl, hB21⟩
          go_wp2
          go_ret
          exact ⟨rfl, Below.up B3.out hB21⟩
    · have ze : (e == 0) = false := by simpa using he
      clear he
      by_cases hab : a = b
      case neg =>
        have HU := Lib.hid (Q10.out hab)
        have z1 : ((a : Int) != b) = true := by simp; omega
        have z2 : ((a : Int) == b) = false := by simp; omega
        have z3 : (h != e) = false := by simp [HU.out.1]
        replace P := Lib.hid P
        rcases Q9.out with rfl | rfl
        all_goals
          obtain ⟨c17, -, l17⟩ := X3.out.blk.all
          have p17 := P.out
          go_wp2_with fail
          clear c17 l17 p17
          generalize w16.alloc (.cells #[.slice Ac16 L2.cells.length nc16, .slice Ak16 L2.cache.length nk16, .int .i64 L2.reqs, .int .i64 L2.left] 27) = w17 at *
          refine (bytes_any _ _ u y _ _ _ SU.out SY.out hul).mono ?_
          rw [show decide (u = y) = true by simp [HU.out.2]]
          rintro q w18 ⟨rfl, hB18⟩
          replace X3 := Lib.hid (BoxD.up X3.out hB18)
          replace B3 := Lib.hid (Below.up B3.out hB18)
          replace SY := Lib.hid (SlR.up SY.out hB18)
          replace SV := Lib.hid (SlR.up SV.out hB18)
          replace P := Lib.hid (below_cell hB18 P.out)
          clear hB18
          obtain ⟨c18, -, l18⟩ := X3.out.blk.all
          have p18 := P.out
          go_wp2_with fail
          clear c18 l18 p18
          refine (wakes_any _).mono ?_
          rintro q w21 ⟨rfl, hB21⟩
          go_wp2
          go_ret
          exact ⟨rfl, Below.up B3.out hB21⟩
      case pos =>
        subst hab
        have z1 : ((a : Int) != a) = false := by simp
        have z2 : ((a : Int) == a) = true := by simp
        replace P := Lib.hid P
        rcases Q9.out with rfl | rfl
        · have HU := Lib.hid (Q11.out rfl rfl)
          have z3 : (h != 0) = false := by simp [HU.out.1]
          obtain ⟨c17, -, l17⟩ := X3.out.blk.all
          have p17 := P.out
          go_wp2_with fail
          clear c17 l17 p17
          generalize w16.alloc (.cells #[.slice Ac16 L2.cells.length nc16, .slice Ak16 L2.cache.length nk16, .int .i64 L2.reqs, .int .i64 L2.left] 27) = w17 at *
          refine (bytes_any _ _ u x _ _ _ SU.out SX3.out hul).mono ?_
          rw [show decide (u = x) = true by simp [HU.out.2]]
          rintro q w18 ⟨rfl, hB18⟩
          replace X3 := Lib.hid (BoxD.up X3.out hB18)
          replace B3 := Lib.hid (Below.up B3.out hB18)
          replace SY := Lib.hid (SlR.up SY.out hB18)
          replace SV := Lib.hid (SlR.up SV.out hB18)
          replace P := Lib.hid (below_cell hB18 P.out)
          clear hB18
          obtain ⟨c18, -, l18⟩ := X3.out.blk.all
          have p18 := P.out
          go_wp2_with fail
          clear c18 l18 p18
          refine (wakes_any _).mono ?_
          rintro q w21 ⟨rfl, hB21⟩
          go_wp2
          go_ret
          exact ⟨rfl, Below.up B3.out hB21⟩
        · obtain ⟨c17, -, l17⟩ := X3.out.blk.all
          have p17 := P.out
          go_wp2_with fail
          clear c17 l17 p17
          generalize w16.alloc (.cells #[.slice Ac16 L2.cells.length nc16, .slice Ak16 L2.cache.length nk16, .int .i64 L2.reqs, .int .i64 L2.left] 27) = w17 at *
          refine (wakes_any _).mono ?_
          rintro q w21 ⟨rfl, hB21⟩
          go_wp2
          go_ret
          exact ⟨rfl, Below.up B3.out hB21⟩
end Go.Proofs.Ytkdjacmabeeceaa
