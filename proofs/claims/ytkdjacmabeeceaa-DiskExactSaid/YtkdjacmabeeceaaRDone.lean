/-
The reference's disk: done.
-/
import Derived.Test.YtkdjacmabeeceaaRRef
namespace Go.Proofs.Ytkdjacmabeeceaa
open Go.RowKit
attribute [local go_sem ↓] Go.wp_at_zero Go.wp_at_succ

set_option maxHeartbeats 4000000 in
theorem rdone_any (w : World) (M : Ms) (base bd : Nat) (vc vk vb : Value) (d : Dis) (j : Nat) (b : List UInt8) (h : RfR w M base bd vc vk d) (hbase : base ≤ w.heap.size) (hM : MOk w M) (hj : j < d.cells.length)
    (hb : SlR w (DA M bd vc vk) vb b) (hbl : b.length ≤ 1000000000) :
    Calls Try.prog 48 #[.pointer (some ⟨bd, 0, none⟩), .agg #[.int .i64 j, vb]] w fun e w' => e = .returned (.tuple #[]) ∧ RStep w M base bd vc vk w' vc vk { d with cells := doneC d.cells j b } := by
  obtain ⟨a, c, rfl⟩ := hb.form
  obtain ⟨g, cc, u1, u2, rfl, hg, -, k0, k1, k2, hs1, -⟩ := celO_at h.cells hj
  obtain ⟨ua, uc, rfl⟩ := hs1.form
  have hgl := Lib.hid (h.cells.own_lt rfl)
  have hB := (Below.refl w.heap.size w).alloc (Nat.le_refl _) (.cells #[.int .i64 j, .slice a b.length c] 78)
  have hB' := hB.drew
  have H1 := Lib.hid (h.belowd hB' hbase)
  have x0 := Lib.hid (Blk.new w 78 #[.int .i64 j, .slice a b.length c]).drew
  have Hb := Lib.hid (hb.mono (Keep.below hB'))
  have hM1 := Lib.hid (hM.below hB'.size)
  have hi : (j : Int) < (d.cells.length : Int) := by omega
  have hji : (0 : Int) ≤ (j : Int) := by omega
  clear hM
  go_enter Try.func48, Try.ntmps48
  go_wp2_with fail
  refine rp_enter [4, 6] (fun w' => (∀ i, w'.cell? ⟨bd, i, none⟩ = #[Value.slice (some ⟨g, 0, none⟩) d.cells.length cc, vk, .int .i64 d.reqs, .int .i64 d.left][i]?) ∧ ∀ i, w'.cell? ⟨w.heap.size, i, none⟩ = #[Value.int .i64 j, .slice a b.length c][i]?) (by kernel_rfl) ?_
  have hS := Lib.hid (And.intro H1.out.drv.blk.cell x0.out.cell)
  apply rp_pure 0 rfl (by kernel_rfl) (fun _ _ _ h => h) rfl
  · (intro W; go_simp; try rfl)
  · (go_simp; try rfl)
  apply rp_pure 1 rfl (by kernel_rfl) (fun _ _ _ h => h) rfl
  · (intro W; go_simp; try rfl)
  · (go_simp; try rfl)
  apply rp_pure 2 rfl (by kernel_rfl) (fun _ _ _ h => h) rfl
  · (intro W; go_simp; try rfl)
  · (go_simp; try rfl)
  apply rp_pure 3 rfl (by kernel_rfl) (fun _ _ _ h => h) rfl
  · (intro W; go_simp; try rfl)
  · (go_simp; try rfl)
  apply rp_take 4 rfl (by kernel_rfl) (fun _ _ _ h => h) (hS.out) rfl
  · (rintro W ⟨s0, s1⟩; go_simp; try rfl)
  · (go_simp; try rfl)
  apply rp_pure 5 rfl (by kernel_rfl) (fun _ _ _ h => h) rfl
  · (intro W; go_simp; try rfl)
  · (go_simp; try rfl)
  apply rp_take 6 rfl (by kernel_rfl) (fun _ _ _ h => h) (hS.out) rfl
  · (rintro W ⟨s0, s1⟩; go_simp; try rfl)
  · (go_simp; try rfl)
  apply rp_pure 7 rfl (by kernel_rfl) (fun _ _ _ h => h) rfl
  · (intro W; go_simp; try rfl)
  · (go_simp; try rfl)
  apply rp_pure 8 rfl (by kernel_rfl) (fun _ _ _ h => h) rfl
  · (intro W; go_simp; try rfl)
  · (go_simp; try rfl)
  refine rp_done (by kernel_rfl) ?_
  have hK : (w.alloc (.cells #[Value.int .i64 j, .slice a b.length c] 78)).drew.cell? ⟨g, j * 3, none⟩ = some (.int .i64 d.cells[j].state) := below_cell hB' k0
  have K1 := Lib.hid (below_cell hB' k1)
  have hX0 := x0
  clear x0 hS hB hB' k0 k1 k2 hs1 hb h
  generalize hw1 : (w.alloc (.cells #[Value.int .i64 j, .slice a b.length c] 78)).drew = w1 at *
  clear hw1
  by_cases hst : d.cells[j].state = 2
  · have hst' : (d.cells[j].state == 2) = true := by simp [hst]
    replace hst := Lib.hid hst
    go_wp2
    refine bodyPost_ret (v := .tuple #[]) (by simp [results, Try.results48, go_sem]) rfl ?_
    refine ⟨rfl, ?_⟩
    rw [doneC_2 hj hst.out]
    exact H1.out
  have hst' : (d.cells[j].state == 2) = false := by simpa using hst
  replace hst := Lib.hid hst
  go_wp2_with fail
  clear hK hst'
  have hB2 := below_drew w1
  have H2 := Lib.hid (H1.out.trans (H1.out.drv.belowd hB2 (Nat.le_trans hbase H1.out.below.size)))
  have Hb2 := Lib.hid (Hb.out.mono (Keep.below hB2))
  have X2 := Lib.hid (hX0.out.below hB2)
  have hS2 := Lib.hid (show w1.drew.cell? ⟨g, j * 3 + 1, none⟩ = some (.slice ua d.cells[j].bytes.length uc) ∧ ∀ i, w1.drew.cell? ⟨w.heap.size, i, none⟩ = #[Value.int .i64 j, .slice a b.length c][i]? from ⟨K1.out, X2.out.cell⟩)
  have hM2 := Lib.hid (hM1.out.below hB2.size)
  clear hB2 H1 Hb hX0 K1 hM1
  refine rp_enter [6, 8] (fun w' => w'.cell? ⟨g, j * 3 + 1, none⟩ = some (.slice ua d.cells[j].bytes.length uc) ∧ ∀ i, w'.cell? ⟨w.heap.size, i, none⟩ = #[Value.int .i64 j, .slice a b.length c][i]?) (by kernel_rfl) ?_
  generalize w1.drew = w2 at *
  apply rp_pure 0 rfl (by kernel_rfl) (fun _ _ _ h => h) rfl
  · (intro W; go_simp; try rfl)
  · (go_simp; try rfl)
  apply rp_pure 1 rfl (by kernel_rfl) (fun _ _ _ h => h) rfl
  · (intro W; go_simp; try rfl)
  · (go_simp; try rfl)
  apply rp_pure 2 rfl (by kernel_rfl) (fun _ _ _ h => h) rfl
  · (intro W; go_simp; try rfl)
  · (go_simp; try rfl)
  apply rp_pure 3 rfl (by kernel_rfl) (fun _ _ _ h => h) rfl
  · (intro W; go_simp; try rfl)
  · (go_simp; try rfl)
  apply rp_pure 4 rfl (by kernel_rfl) (fun _ _ _ h => h) rfl
  · (intro W; go_simp; try rfl)
  · (go_simp; try rfl)
  apply rp_pure 5 rfl (by kernel_rfl) (fun _ _ _ h => h) rfl
  · (intro W; go_simp; try rfl)
  · (go_simp; try rfl)
  apply rp_take 6 rfl (by kernel_rfl) (fun _ _ _ h => h) (hS2.out) rfl
  · (rintro W ⟨s0, s1⟩; go_simp; try rfl)
  · (go_simp; try rfl)
  apply rp_pure 7 rfl (by kernel_rfl) (fun _ _ _ h => h) rfl
  · (intro W; go_simp; try rfl)
  · (go_simp; try rfl)
  apply rp_take 8 rfl (by kernel_rfl) (fun _ _ _ h => h) (hS2.out) rfl
  · (rintro W ⟨s0, s1⟩; go_simp; try rfl)
  · (go_simp; try rfl)
  refine rp_only 9 (by kernel_rfl) rfl (fun K hK => ?_)
  go_simp
  refine (twin_any _ b w2 _ (rv_list.2 Hb2.out) (H2.out.drv.mok hM2.out) hbl).mono ?_
  rintro q w3 ⟨r3, rfl, hr3, hB3⟩
  have V3 := Lib.hid (rv_list.1 hr3)
  obtain ⟨A3, C3, rfl⟩ := V3.out.form
  have H3 := Lib.hid (H2.out.trans (H2.out.drv.belowd hB3 (Nat.le_trans hbase H2.out.below.size)))
  have hS3 := Lib.hid (show w3.cell? ⟨g, j * 3 + 1, none⟩ = some (.slice ua d.cells[j].bytes.length uc) ∧ ∀ i, w3.cell? ⟨w.heap.size, i, none⟩ = #[Value.int .i64 j, .slice a b.length c][i]? from ⟨below_cell hB3 hS2.out.1, (X2.out.below hB3).cell⟩)
  have X3 := Lib.hid (X2.out.below hB3)
  clear hr3 hB3 hS2 H2 X2 Hb2 hM2
  refine hK _ _ ⟨fun _ _ => hS3.out, ?_⟩; clear hK K
  apply rp_pure 10 rfl (by kernel_rfl) (fun _ _ _ h => h) rfl
  · (intro W; go_simp; try rfl)
  · (go_simp; try rfl)
  apply rp_pure 11 rfl (by kernel_rfl) (fun _ _ _ h => h) rfl
  · (intro W; go_simp; try rfl)
  · (go_simp; try rfl)
  obtain ⟨g', cc', v1', v2', hvv, hg', hfr, e0, e1, e2, r1, r2⟩ := celO_at H3.out.drv.cells hj
  simp only [Value.slice.injEq, Option.some.injEq, Addr.mk.injEq, true_and, and_true] at hvv
  obtain ⟨rfl, rfl⟩ := hvv
  obtain rfl : v1' = .slice ua d.cells[j].bytes.length uc := by have := e1.symm.trans hS3.out.1; injection this
  have hfr2 := hfr (j * 3 + 2)
  have R1 := Lib.hid (r1.mono (Keep.less (fun x hx => DA.of (vk := vk) (M := M) (bd := bd) hx)))
  have hge3 := Lib.hid (Nat.le_trans hbase H3.out.below.size)
  have hgw := Lib.hid (H3.out.drv.cells.own_lt rfl)
  have s4 := H3.out.drv.field hge3.out hj (f := 2) (by omega) (.slice ua d.cells[j].bytes.length uc) ⟨d.cells[j].state, d.cells[j].bytes, d.cells[j].bytes⟩ (fun cs hcs => by obtain ⟨b', o', rfl, q1, q2⟩ := hcs; exact ⟨_, _, rfl, q1, R1.out⟩)
  have K4 := s4.keep
  have H4 := Lib.hid (H3.out.trans s4)
  have V4 := Lib.hid (V3.out.mono K4)
  have R4 := Lib.hid (R1.out.mono K4)
  clear s4 K4 r1 r2
  have hS4 : (fun w' : World => w'.cell? ⟨g, j * 3 + 1, none⟩ = some (.slice ua d.cells[j].bytes.length uc) ∧ ∀ i, w'.cell? ⟨w.heap.size, i, none⟩ = #[Value.int .i64 j, .slice a b.length c][i]?) (w3.setCell ⟨g, j * 3 + 2, none⟩ (.slice ua d.cells[j].bytes.length uc)) := by
    refine ⟨(World.cell?_setCell_other _ _ _ _ (by simp)).trans hS3.out.1, (X3.out.far (p := ⟨g, j * 3 + 2, none⟩) (fun e => by have := hgl.out; simp at e this; omega) _).cell⟩
  replace hS4 := Lib.hid hS4
  refine rp_only 12 (by kernel_rfl) rfl (fun K hK => ?_)
  go_simp
  clear e0 e1 e2 hfr hfr2
  refine hK _ _ ⟨fun _ _ => hS4.out, ?_⟩; clear hK K
  apply rp_pure 13 rfl (by kernel_rfl) (fun _ _ _ h => h) rfl
  · (intro W; go_simp; try rfl)
  · (go_simp; try rfl)
  apply rp_pure 14 rfl (by kernel_rfl) (fun _ _ _ h => h) rfl
  · (intro W; go_simp; try rfl)
  · (go_simp; try rfl)
  have H4' : RStep w M base bd (.slice (some ⟨g, 0, none⟩) d.cells.length cc) vk (w3.setCell ⟨g, j * 3 + 2, none⟩ (.slice ua d.cells[j].bytes.length uc)) (.slice (some ⟨g, 0, none⟩) d.cells.length cc) vk _ := H4.out
  have hj2 : j < (d.cells.set j ⟨d.cells[j].state, d.cells[j].bytes, d.cells[j].bytes⟩).length := by rw [List.length_set]; exact hj
  obtain ⟨g', cc', v1', v3', hvv, -, hfr, e0, e1, e2, -, -⟩ := celO_at H4'.drv.cells hj2
  simp only [Value.slice.injEq, Option.some.injEq, Addr.mk.injEq, and_true] at hvv
  obtain ⟨rfl, -, -⟩ := hvv
  have hfr1 := hfr (j * 3 + 1)
  have s5 := H4'.drv.field (Nat.le_trans hbase H4'.below.size) hj2 (f := 1) (by omega) (.slice A3 b.length C3) ⟨d.cells[j].state, b, d.cells[j].bytes⟩ (fun cs hcs => by obtain ⟨b', o', rfl, q1, q2⟩ := hcs; rw [List.getElem_set_self] at q2; exact ⟨_, _, by rw [List.getElem_set_self]; rfl, V4.out, q2⟩)
  have H5 := Lib.hid (H4'.trans s5)
  clear s5 H4'
  generalize w3.setCell ⟨g, j * 3 + 2, none⟩ (.slice ua d.cells[j].bytes.length uc) = w4 at *
  refine rp_free 15 (by kernel_rfl) (by kernel_rfl) rfl (fun K hK => ?_)
  go_simp
  refine hK _ _ ?_; clear hK K
  clear hfr hfr1 e0 e1 e2 hS4 hj2
  apply rp_pure 16 rfl (by kernel_rfl) (fun _ _ _ h => h) rfl
  · (intro W; go_simp; try rfl)
  · (go_simp; try rfl)
  apply rp_pure 17 rfl (by kernel_rfl) (fun _ _ _ h => h) rfl
  · (intro W; go_simp; try rfl)
  · (go_simp; try rfl)
  have hj3 : j < ((d.cells.set j ⟨d.cells[j].state, d.cells[j].bytes, d.cells[j].bytes⟩).set j ⟨d.cells[j].state, b, d.cells[j].bytes⟩).length := by rw [List.length_set, List.length_set]; exact hj
  obtain ⟨g', cc', v1', v3', hvv, -, hfr, e0, e1, e2, -, -⟩ := celO_at H5.out.drv.cells hj3
  simp only [Value.slice.injEq, Option.some.injEq, Addr.mk.injEq, and_true] at hvv
  obtain ⟨rfl, -, -⟩ := hvv
  have hfr0 := hfr (j * 3)
  have s6 := H5.out.drv.field (Nat.le_trans hbase H5.out.below.size) hj3 (f := 0) (by omega) (.int .i64 0) ⟨0, b, d.cells[j].bytes⟩ (fun cs hcs => by obtain ⟨b', o', rfl, q1, q2⟩ := hcs; simp only [List.getElem_set_self] at q1 q2; exact ⟨_, _, rfl, q1, q2⟩)
  have H6 := Lib.hid (H5.out.trans s6)
  clear s6
  refine rp_free 18 (by kernel_rfl) (by kernel_rfl) rfl (fun K hK => ?_)
  go_simp
  refine hK _ _ ?_; clear hK K
  refine rp_done (by kernel_rfl) ?_
  clear hfr hfr0 e0 e1 e2 hj3
  go_end0
  refine ⟨rfl, ?_⟩
  rw [doneC_0 hj hst.out]
  have h6 := H6.out
  simp only [List.set_set] at h6
  exact h6
end Go.Proofs.Ytkdjacmabeeceaa
