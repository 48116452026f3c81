/-
The reference's disk: Write.
-/
import Derived.Test.YtkdjacmabeeceaaRFlush
namespace Go.Proofs.Ytkdjacmabeeceaa
open Go.RowKit
attribute [local go_sem ↓] Go.wp_at_zero Go.wp_at_succ

set_option maxRecDepth 100000 in
set_option maxHeartbeats 4000000 in
theorem rwrite_any (w : World) (M : Ms) (base bd : Nat) (vc vk vb : Value) (d : Dis) (k : Nat) (b : List UInt8) (h : RfR w M base bd vc vk d) (hbase : base ≤ w.heap.size) (hM : MOk w M) (hO : OkD d) (hk : k < d.cells.length) (hb : SlR w (DA M bd vc vk) vb b) (hbl : b.length ≤ 1000000) :
    Calls Try.prog 28 #[.pointer (some ⟨bd, 0, none⟩), .int .i64 k, vb] w fun e w' => e = .returned (.int .i64 (writeD d k b).2) ∧ ∃ vk', RStep w M base bd vc vk w' vc vk' (writeD d k b).1 := by
  have hr := hO.1.2.2.2
  have hkl : d.cache.length ≤ 2000 := hO.1.2.2.1
  clear hO
  by_cases hl : d.left = 0
  · have hq := Lib.hid (rreq_dead w M base bd vc vk d h hl)
    have hw : writeD d k b = (d, 8) := by simp [writeD, hl]
    rw [hw]
    have H := Lib.hid h
    clear hw hl hb h
    go_enter Try.func28, Try.ntmps28
    go_wp2_with fail
    refine hq.out.mono ?_
    rintro e w1 ⟨rfl, rfl⟩
    go_wp2
    go_ret
    exact ⟨rfl, vk, H.out.same⟩
  have hq := Lib.hid (rreq_any w M base bd vc vk d h hbase hl hr.1 hr.2.1 hr.2.2.1 hr.2.2.2)
  obtain ⟨vkA, vkc, rfl⟩ := h.cache.form
  obtain ⟨vcA, vcc, rfl⟩ := h.cells.form
  obtain ⟨vbA, vbc, rfl⟩ := hb.form
  have Hl := Lib.hid hl
  have Hb := Lib.hid hb
  have hM' := Lib.hid hM
  have hbs := Lib.hid hbase
  clear hl hb h hM hbase hr
  go_enter Try.func28, Try.ntmps28
  go_wp2_with fail
  refine hq.out.mono ?_
  rintro e w1 ⟨rfl, h1, -⟩
  have Hb1 := Lib.hid (Hb.out.mono h1.keep)
  have hz1 := Lib.hid h1.below.size
  obtain ⟨c1, f1, l1⟩ := h1.drv.blk.all
  obtain ⟨g, c, vb0, vo0, hv, hg, hf, e0, e1, e2, -, -⟩ := celO_at h1.drv.cells hk
  have hv : Value.slice vcA d.cells.length vcc = .slice (some ⟨g, 0, none⟩) d.cells.length c := hv
  simp only [Value.slice.injEq, true_and] at hv
  obtain ⟨rfl, rfl⟩ := hv
  have e0' : w1.cell? ⟨g, k * 3, none⟩ = some (.int .i64 d.cells[k].state) := e0
  have c1' : ∀ i, w1.cell? ⟨bd, i, none⟩ = #[Value.slice (some ⟨g, 0, none⟩) d.cells.length vcc, .slice vkA d.cache.length vkc, .int .i64 (reqD d).reqs, .int .i64 (reqD d).left][i]? := c1
  have H1 := Lib.hid h1
  have hi : (k : Int) < (d.cells.length : Int) := by omega
  clear h1 e0 e1 e2 c1 hq hf hg Hb
  by_cases hst : d.cells[k].state = 2
  · have hst' : (d.cells[k].state == 2) = true := by simp [hst]
    have hw := Lib.hid (writeD_7 (b := b) hk Hl.out (.inl hst))
    clear hst
    go_wp2
    go_ret
    rw [hw.out]
    exact ⟨rfl, _, H1.out⟩
  have hst' : (d.cells[k].state == 2) = false := by simpa using hst
  by_cases hfu : 2000 ≤ d.cache.length
  · have hfu' : (2000 : Int) ≤ d.cache.length := by omega
    have hw := Lib.hid (writeD_7 (b := b) hk Hl.out (.inr hfu))
    clear hst
    go_wp2
    go_ret
    rw [hw.out]
    exact ⟨rfl, _, H1.out⟩
  have hfu' : ¬ (2000 : Int) ≤ d.cache.length := by omega
  have hw := Lib.hid (writeD_0 (b := b) hk Hl.out hst (by omega))
  clear hst
  go_wp2_with fail
  clear hst' hfu' e0' l1 f1
  have H1d := Lib.hid (H1.out.trans (H1.out.drv.belowd (below_drew w1) (Nat.le_trans hbs.out hz1.out)))
  have Hb2 := Lib.hid (Hb1.out.mono (Keep.below (below_drew w1)))
  have hS := Lib.hid (show ∀ i, w1.drew.cell? ⟨bd, i, none⟩ = #[Value.slice (some ⟨g, 0, none⟩) d.cells.length vcc, .slice vkA d.cache.length vkc, .int .i64 (reqD d).reqs, .int .i64 (reqD d).left][i]? from c1')
  clear c1' H1 Hb1 hz1
  refine rp_enter [5] (fun w' => ∀ i, w'.cell? ⟨bd, i, none⟩ = #[Value.slice (some ⟨g, 0, none⟩) d.cells.length vcc, .slice vkA d.cache.length vkc, .int .i64 (reqD d).reqs, .int .i64 (reqD d).left][i]?) (by kernel_rfl) ?_
  generalize w1.drew = w1d at *
  apply rp_pure 0 rfl (by kernel_rfl) (fun _ _ _ h => h) rfl
  · (intro W; go_simp; try rfl)
  · (go_simp; try rfl)
  apply rp_pure 1 rfl (by kernel_rfl) (fun _ _ _ h => h) rfl
  · (intro W; go_simp; try rfl)
  · (go_simp; try rfl)
  apply rp_pure 2 rfl (by kernel_rfl) (fun _ _ _ h => h) rfl
  · (intro W; go_simp; try rfl)
  · (go_simp; try rfl)
  apply rp_pure 3 rfl (by kernel_rfl) (fun _ _ _ h => h) rfl
  · (intro W; go_simp; try rfl)
  · (go_simp; try rfl)
  apply rp_pure 4 rfl (by kernel_rfl) (fun _ _ _ h => h) rfl
  · (intro W; go_simp; try rfl)
  · (go_simp; try rfl)
  apply rp_take 5 rfl (by kernel_rfl) (fun _ _ _ h => h) (hS.out) rfl
  · (rintro W hW; go_simp; try rfl)
  · (go_simp; try rfl)
  apply rp_pure 6 rfl (by kernel_rfl) (fun _ _ _ h => h) rfl
  · (intro W; go_simp; try rfl)
  · (go_simp; try rfl)
  apply rp_pure 7 rfl (by kernel_rfl) (fun _ _ _ h => h) rfl
  · (intro W; go_simp; try rfl)
  · (go_simp; try rfl)
  refine rp_only 8 (by kernel_rfl) rfl (fun K hK => ?_)
  go_simp
  refine (twin_any _ b _ (DA M bd (.slice (some ⟨g, 0, none⟩) d.cells.length vcc) (.slice vkA d.cache.length vkc)) (rv_list.2 Hb2.out) (H1d.out.drv.mok (hM'.out.below H1d.out.below.size)) (by omega)).mono ?_
  rintro e w2 ⟨r, rfl, hr2, hB2⟩
  have h2 := H1d.out.trans (H1d.out.drv.belowd hB2 (Nat.le_trans hbs.out H1d.out.below.size))
  have Hr2 := Lib.hid (rv_list.1 hr2)
  obtain ⟨ar, cr, rfl⟩ := Hr2.out.form
  have H2 := Lib.hid h2
  have hS2 := Lib.hid (show ∀ i, w2.cell? ⟨bd, i, none⟩ = #[Value.slice (some ⟨g, 0, none⟩) d.cells.length vcc, .slice vkA d.cache.length vkc, .int .i64 (reqD d).reqs, .int .i64 (reqD d).left][i]? from h2.drv.blk.cell)
  clear h2 hr2 hB2 H1d Hb2
  refine hK _ _ ⟨fun _ _ => hS2.out, ?_⟩; clear hK K
  apply rp_pure 9 rfl (by kernel_rfl) (fun _ _ _ h => h) rfl
  · (intro W; go_simp; try rfl)
  · (go_simp; try rfl)
  refine rp_only 10 (by kernel_rfl) rfl (fun K hK => ?_)
  go_simp
  have hB3 := (Below.refl w2.heap.size w2).alloc (Nat.le_refl _) (.cells #[Value.int .i64 k, .slice ar b.length cr] 78)
  have H3 := Lib.hid (H2.out.trans (H2.out.drv.belowd hB3 (Nat.le_trans hbs.out H2.out.below.size)))
  have Hr3 := Lib.hid (Hr2.out.mono (Keep.below hB3))
  have hblk3 := Blk.new w2 78 #[Value.int .i64 k, .slice ar b.length cr]
  have l3 : w.heap.size ≤ w2.heap.size := H2.out.below.size
  clear hB3
  refine hK _ _ ⟨fun _ _ => H3.out.drv.blk.cell, ?_⟩; clear hK K
  refine rp_only 11 (by kernel_rfl) rfl (fun K hK => ?_)
  refine step_append_R (α := Wri) (base := base) (l := d.cache) (m := [⟨k, b⟩]) rfl (by rfl) ty25 (by rfl) H3.out.drv.cache (by rfl) ?_ (by simp; omega) (by have := hbs.out; simp; omega) ?_
  · refine SlR.one hblk3 ⟨_, rfl, Hr3.out.mono (Keep.less ?_)⟩ ?_
    · rintro x ((h' | h' | h') | h')
      · exact .inl h'
      · exact .inr (.inl h')
      · exact .inr (.inr (.inl h'))
      · exact .inr (.inr (.inr h'))
    · rintro ((h' | h' | h') | h')
      · have := hM'.out _ h'; omega
      · have := H2.out.drv.blk.lt; omega
      · have := H2.out.drv.cells.own_lt h'; omega
      · have := H2.out.drv.cache.own_lt h'; omega
  intro v4 w4 ho4 hg4 hat4
  have h5 := H3.out.drv.newCache (by have := hbs.out; simp; omega) hg4 hat4 ho4
  have H5 := Lib.hid (H3.out.trans h5)
  have hbl4 := H3.out.drv.blk.grown hg4 (fun e => H3.out.drv.cache.ne_ H3.out.drv.blk (by decide) e.symm)
  obtain ⟨a4, b4, rfl⟩ := ho4.form
  obtain ⟨c4, f4, l4⟩ := hbl4.all
  have hw4 := Lib.hid (show ∀ i, w4.cell? ⟨bd, i, none⟩ = #[Value.slice (some ⟨g, 0, none⟩) d.cells.length vcc, .slice vkA d.cache.length vkc, .int .i64 (reqD d).reqs, .int .i64 (reqD d).left][i]? from c4)
  clear h5 hg4 hat4 ho4 hbl4 hblk3
  refine hK _ _ ⟨fun _ _ => hw4.out, ?_⟩; clear hK K
  apply rp_pure 12 rfl (by kernel_rfl) (fun _ _ _ h => h) rfl
  · (intro W; go_simp; try rfl)
  · (go_simp; try rfl)
  apply rp_pure 13 rfl (by kernel_rfl) (fun _ _ _ h => h) rfl
  · (intro W; go_simp; try rfl)
  · (go_simp; try rfl)
  apply rp_pure 14 rfl (by kernel_rfl) (fun _ _ _ h => h) rfl
  · (intro W; go_simp; try rfl)
  · (go_simp; try rfl)
  refine rp_free 15 (by kernel_rfl) (by kernel_rfl) rfl (fun K hK => ?_)
  go_simp
  refine hK _ _ ?_; clear hK K
  refine rp_done (by kernel_rfl) ?_
  go_wp2
  go_ret
  rw [hw.out]
  have h5 := H5.out
  simp only [List.length_append, List.length_cons, List.length_nil, Nat.zero_add] at h5
  exact ⟨rfl, _, h5⟩
end Go.Proofs.Ytkdjacmabeeceaa
