/-
The contract of a drive's method Write.
-/
import Derived.Test.YtkdjacmabeeceaaDrv2
namespace Go.Proofs.Ytkdjacmabeeceaa
open Go.RowKit
attribute [local go_sem ↓] Go.wp_at_zero Go.wp_at_succ

theorem celO_at {w : World} {M : Ms} {base : Nat} {e : TypeId} {v : Value} {l : List Cel} {k : Nat} (h : OwR w M base e v l) (hk : k < l.length) :
    ∃ g c vb vo, v = .slice (some ⟨g, 0, none⟩) l.length c ∧ base ≤ g ∧ (∀ i, w.frozen? ⟨g, i, none⟩ = false) ∧ w.cell? ⟨g, k * 3, none⟩ = some (.int .i64 l[k].state) ∧ w.cell? ⟨g, k * 3 + 1, none⟩ = some vb ∧ w.cell? ⟨g, k * 3 + 2, none⟩ = some vo ∧
      SlR w (fun b => M b ∨ v.ownBlock = some b) vb l[k].bytes ∧ SlR w (fun b => M b ∨ v.ownBlock = some b) vo l[k].old := by
  obtain ⟨g, c, cs, rfl, hb, hc, hf, ⟨vb, vo, rfl, h1, h2⟩, hj⟩ := h.at_ hk
  exact ⟨g, c, vb, vo, rfl, hb, hf, hj 0 _ rfl, hj 1 _ rfl, hj 2 _ rfl, h1, h2⟩

theorem wriO_at {w : World} {M : Ms} {base : Nat} {e : TypeId} {v : Value} {l : List Wri} {k : Nat} (h : OwR w M base e v l) (hk : k < l.length) :
    ∃ g c vb, v = .slice (some ⟨g, 0, none⟩) l.length c ∧ base ≤ g ∧ w.cell? ⟨g, k * 2, none⟩ = some (.int .i64 l[k].addr) ∧ w.cell? ⟨g, k * 2 + 1, none⟩ = some vb ∧
      SlR w (fun b => M b ∨ v.ownBlock = some b) vb l[k].bytes := by
  obtain ⟨g, c, cs, rfl, hb, hc, hf, ⟨vb, rfl, h1⟩, hj⟩ := h.at_ hk
  exact ⟨g, c, vb, rfl, hb, hj 0 _ rfl, hj 1 _ rfl, h1⟩
theorem DrvR.mok {w : World} {M : Ms} {base bd : Nat} {vc vk : Value} {d : Dis} (h : DrvR w M base bd vc vk d) (hM : MOk w M) : MOk w (DA M bd vc vk) := by
  rintro b (h' | rfl | h' | h')
  · exact hM b h'
  · exact h.blk.lt
  · exact h.cells.own_lt h'
  · exact h.cache.own_lt h'
/-- The cache is another row, and the drive's block says so. -/
theorem DrvR.newCache {w w1 : World} {M : Ms} {base bd : Nat} {vc vk vk1 : Value} {d : Dis} {l : List Wri} (h : DrvR w M base bd vc vk d) (hbase : base ≤ w.heap.size) (hg : w.grownBy w1 vk.ownBlock) (hat : vk1.ownBlock = vk.ownBlock ∨ vk1.ownBlock = some w.heap.size)
    (ho : OwR w1 (DM M bd vc) base 78 vk1 l) : DStep w M base bd vc vk (w1.setCell ⟨bd, 1, none⟩ vk1) vc vk1 { d with cache := l } := by
  have hne : some bd ≠ vk.ownBlock := fun e => h.cache.ne_ h.blk (by decide) e.symm
  have hblk := h.blk.grown hg hne
  have hcc : vc.ownBlock = none ∨ vc.ownBlock ≠ vk.ownBlock := by
    cases hc : vc.ownBlock with
    | none => exact .inl rfl
    | some g =>
      right
      intro e
      obtain ⟨xs, ho', _⟩ := h.cells
      obtain ⟨ys, ho'', _⟩ := h.cache
      rcases ho'.2 with ⟨rfl, _⟩ | ⟨g1, cap, cur, rfl, _, hh, _⟩
      · simp [Value.ownBlock] at hc
      · rcases ho''.2 with ⟨rfl, _⟩ | ⟨g2, cap2, cur2, rfl, _, hh2, _⟩
        · simp [Value.ownBlock] at e
        · simp [Value.ownBlock] at hc e
          subst hc; subst e
          rw [hh] at hh2
          injection hh2 with hh2
          injection hh2 with _ ht
          exact absurd ht (by decide)
  have hk : Keep w (DA M bd vc vk) (w1.setCell ⟨bd, 1, none⟩ vk1) (DA M bd vc vk1) := fun b hb hm => by
    have h1 : ¬ DA M bd vc vk1 b := by
      rintro (h' | h' | h' | h')
      · exact hm (.inl h')
      · exact hm (.inr (.inl h'))
      · exact hm (.inr (.inr (.inl h')))
      · rcases hat with h5 | h5
        · exact hm (.inr (.inr (.inr (h5 ▸ h'))))
        · rw [h5] at h'; injection h' with h'; omega
    exact ⟨h1, (Below.heap_setCell _ _ _ _ (fun e => hm (.inr (.inl e)))).trans (hg.block b hb (fun e => hm (.inr (.inr (.inr e.symm)))))⟩
  refine ⟨⟨h.ge, hblk.set_ 1 vk1, ?_, ?_⟩, ?_, hk⟩
  · have h1 : OwR w1 (DM M bd vk) base 47 vc d.cells := h.cells.kept hg hcc (fun b e => .inr (.inr e))
    have h2 := h1.setCell (p := ⟨bd, 1, none⟩) (h1.ne_ hblk (by decide)) (.inr (.inl rfl)) vk1
    obtain ⟨xs, ho', he⟩ := h2
    obtain ⟨xs0, ho0, he0⟩ := h.cells
    have hx : xs = xs0 ∨ True := .inr trivial
    refine ⟨xs0, ?_, he0.mono fun cs x _ => Rp.mono fun b hb hm => ?_⟩
    · exact (ho0.kept hg hcc).kept (grownBy_set _ _ _ _) (.inr (by
        intro e
        exact h.cells.ne_ h.blk (by decide) e))
    · have hm' : ¬ DA M bd vc vk b := by
        rintro (h' | h' | h' | h')
        · exact hm (.inl (.inl h'))
        · exact hm (.inl (.inr (.inl h')))
        · exact hm (.inr h')
        · exact hm (.inl (.inr (.inr h')))
      obtain ⟨k1, k2⟩ := hk b hb hm'
      refine ⟨?_, k2⟩
      rintro ((h' | h' | h') | h')
      · exact k1 (.inl h')
      · exact k1 (.inr (.inl h'))
      · exact k1 (.inr (.inr (.inr h')))
      · exact k1 (.inr (.inr (.inl h')))
  · exact ho.setCell (p := ⟨bd, 1, none⟩) (ho.ne_ hblk (by decide)) (.inr (.inl rfl)) vk1
  · exact ((Below.refl _ _).grown hg hbase (fun k e => h.cache.own_ge e)).setCell h.ge vk1

/-- What a write comes to. -/
def writeD (d : Dis) (k : Nat) (b : List UInt8) : Dis × Int :=
  if d.left = 0 then (d, 8)
  else if (d.cells[k]?.map (·.state)) = some 2 ∨ 2000 ≤ d.cache.length then (reqD d, 7)
  else ({ reqD d with cache := d.cache ++ [⟨k, b⟩] }, 0)

def rngB (d : Dis) : Prop := 0 ≤ d.reqs ∧ d.reqs ≤ 1048576 ∧ -1 ≤ d.left ∧ d.left ≤ 1048576

theorem writeD_7 {d : Dis} {k : Nat} {b : List UInt8} (hk : k < d.cells.length) (hl : d.left ≠ 0) (h : d.cells[k].state = 2 ∨ 2000 ≤ d.cache.length) : writeD d k b = (reqD d, 7) := by
  unfold writeD
  rw [if_neg hl, if_pos]
  simpa [List.getElem?_eq_getElem hk] using h
theorem writeD_0 {d : Dis} {k : Nat} {b : List UInt8} (hk : k < d.cells.length) (hl : d.left ≠ 0) (h : ¬ d.cells[k].state = 2) (h' : d.cache.length < 2000) : writeD d k b = ({ reqD d with cache := d.cache ++ [⟨k, b⟩] }, 0) := by
  unfold writeD
  rw [if_neg hl, if_neg]
  simp [List.getElem?_eq_getElem hk, h]; omega

set_option maxHeartbeats 2000000 in
theorem write_any (w : World) (M : Ms) (base bd : Nat) (vc vk vb : Value) (d : Dis) (k : Nat) (b : List UInt8) (h : DrvR w M base bd vc vk d) (hbase : base ≤ w.heap.size) (hr : rngB d)
    (hk : k < d.cells.length) (hkl : d.cache.length ≤ 1000000) (hM : MOk w M) (hb : SlR w (DA M bd vc vk) vb b) (hbl : b.length ≤ 1000000) :
    Calls Try.prog 34 #[.pointer (some ⟨bd, 0, none⟩), .int .i64 k, vb] w fun e w' => e = .returned (.int .i64 (writeD d k b).2) ∧ ∃ vk', DStep w M base bd vc vk w' vc vk' (writeD d k b).1 := by
  by_cases hl : d.left = 0
  · have hq := Lib.hid (request_dead w M base bd vc vk d h hl)
    have hw : writeD d k b = (d, 8) := by simp [writeD, hl]
    rw [hw]
    have H := Lib.hid h
    clear hw hl hb h
    go_enter Try.func34, Try.ntmps34
    go_wp2_with (go_at_call 52; go_must (refine hq.out.mono ?_); rintro e w1 ⟨rfl, rfl⟩)
    go_ret
    exact ⟨rfl, vk, H.out.same⟩
  · have hq := Lib.hid (request_any w M base bd vc vk d h hbase hl hr.1 hr.2.1 hr.2.2.1 hr.2.2.2)
    obtain ⟨vkA, vkc, rfl⟩ := h.cache.form
    have Hl := Lib.hid hl
    have Hb := Lib.hid hb
    clear hl hb h
    go_enter Try.func34, Try.ntmps34
    go_wp2_with fail
    refine hq.out.mono ?_
    rintro e w1 ⟨rfl, h1, -⟩
    have Hb1 := Lib.hid (Hb.out.mono h1.keep)
    have hz1 := h1.below.size
    have hB1 := Lib.hid h1.below
    obtain ⟨c1, f1, l1⟩ := h1.drv.blk.all
    obtain ⟨g, c, vb0, vo0, rfl, hg, hf, e0, e1, e2, -, -⟩ := celO_at h1.drv.cells hk
    have e0' : w1.cell? ⟨g, k * 3, none⟩ = some (.int .i64 d.cells[k].state) := e0
    have c1' : ∀ i, w1.cell? ⟨bd, i, none⟩ = #[Value.slice (some ⟨g, 0, none⟩) d.cells.length c, .slice vkA d.cache.length vkc, .int .i64 (reqD d).reqs, .int .i64 (reqD d).left][i]? := c1
    have H1 := Lib.hid h1
    have hi : (k : Int) < (d.cells.length : Int) := by omega
    clear h1 e0 e1 e2 c1
    go_wp2_with (go_at_call 41; fail)
    · go_ret
      rw [writeD_7 hk Hl.out (.inl (by assumption))]
      exact ⟨rfl, _, H1.out⟩
    · go_ret
      rename_i hor
      rw [writeD_7 hk Hl.out (hor.imp (fun h => by simpa using h) (fun h => by omega))]
      exact ⟨rfl, _, H1.out⟩
    · rename_i hand
      have hw := Lib.hid (writeD_0 (b := b) hk Hl.out (by assumption) (by omega))
      refine rg_enter [0, 1, 2, 3, 4, 5, 6, 7] (fun w' => ∀ i, w'.cell? ⟨bd, i, none⟩ = #[Value.slice (some ⟨g, 0, none⟩) d.cells.length c, .slice vkA d.cache.length vkc, .int .i64 (reqD d).reqs, .int .i64 (reqD d).left][i]?) (by kernel_rfl) ?_
      have hD : w1.drew.cell? = w1.cell? := rfl
      apply rg_take 0 rfl (by kernel_rfl) (fun _ _ _ h => h) (c1') rfl
      · (rintro W hW; go_simp; try rfl)
      · (go_simp; try rfl)
      apply rg_take 1 rfl (by kernel_rfl) (fun _ _ _ h => h) (c1') rfl
      · (rintro W hW; go_simp; try rfl)
      · (go_simp; try rfl)
      apply rg_take 2 rfl (by kernel_rfl) (fun _ _ _ h => h) (c1') rfl
      · (rintro W hW; go_simp; try rfl)
      · (go_simp; try rfl)
      apply rg_take 3 rfl (by kernel_rfl) (fun _ _ _ h => h) (c1') rfl
      · (rintro W hW; go_simp; try rfl)
      · (go_simp; try rfl)
      apply rg_take 4 rfl (by kernel_rfl) (fun _ _ _ h => h) (c1') rfl
      · (rintro W hW; go_simp; try rfl)
      · (go_simp; try rfl)
      apply rg_take 5 rfl (by kernel_rfl) (fun _ _ _ h => h) (c1') rfl
      · (rintro W hW; go_simp; try rfl)
      · (go_simp; try rfl)
      apply rg_take 6 rfl (by kernel_rfl) (fun _ _ _ h => h) (c1') rfl
      · (rintro W hW; go_simp; try rfl)
      · (go_simp; try rfl)
      apply rg_take 7 rfl (by kernel_rfl) (fun _ _ _ h => h) (c1') rfl
      · (rintro W hW; go_simp; try rfl)
      · (go_simp; try rfl)
      refine rg_only 8 (by kernel_rfl) rfl (fun K hK => ?_)
      go_simp
      have H1d := Lib.hid (H1.out.trans (H1.out.drv.belowd (below_drew w1) (Nat.le_trans hbase hz1)))
      refine (bclone_any _ b _ (DA M bd (.slice (some ⟨g, 0, none⟩) d.cells.length c) (.slice vkA d.cache.length vkc)) (rv_list.2 (Hb1.out.mono (Keep.below (below_drew w1)))) (H1d.out.drv.mok (hM.below hz1)) (by omega)).mono ?_
      rintro e w2 ⟨r, rfl, hr2, hB2⟩
      have h2 := H1d.out.trans (H1d.out.drv.belowd hB2 (Nat.le_trans hbase hz1))
      obtain ⟨ar, cr, rfl⟩ := (rv_list.1 hr2).form
      have Hr2 := Lib.hid (rv_list.1 hr2)
      have H2 := Lib.hid h2
      obtain ⟨c2, f2, l2⟩ := h2.drv.blk.all
      have c2' : ∀ i, w2.cell? ⟨bd, i, none⟩ = #[Value.slice (some ⟨g, 0, none⟩) d.cells.length c, .slice vkA d.cache.length vkc, .int .i64 (reqD d).reqs, .int .i64 (reqD d).left][i]? := c2
      clear c2 h2 hr2 hB2
      refine hK _ _ ⟨fun _ => c2', ?_⟩; clear hK K
      refine rg_only 9 (by kernel_rfl) rfl (fun K hK => ?_)
      go_simp
      refine hK _ _ ⟨fun _ => c2', ?_⟩; clear hK K
      refine rg_only 10 (by kernel_rfl) rfl (fun K hK => ?_)
      go_simp
      have hB3 := (Below.refl w2.heap.size w2).alloc (Nat.le_refl _) (.cells #[Value.int .i64 k, .slice ar b.length cr] 78)
      have H3 := Lib.hid (H2.out.trans (H2.out.drv.belowd hB3 (Nat.le_trans hbase H2.out.below.size)))
      have Hr3 := Lib.hid (Hr2.out.mono (Keep.below hB3))
      have hblk3 := Blk.new w2 78 #[Value.int .i64 k, .slice ar b.length cr]
      have l3 : w.heap.size ≤ w2.heap.size := H2.out.below.size
      clear hB3
      refine hK _ _ ⟨fun _ => H3.out.drv.blk.cell, ?_⟩; clear hK K
      refine rg_only 11 (by kernel_rfl) rfl (fun K hK => ?_)
      refine step_append_R (α := Wri) (base := base) (l := d.cache) (m := [⟨k, b⟩]) rfl (by rfl) ty25 (by rfl) H3.out.drv.cache (by rfl) ?_ (by simp; omega) (by simp; omega) ?_
      · refine SlR.one hblk3 ⟨_, rfl, Hr3.out.mono (Keep.less ?_)⟩ ?_
        · rintro x ((h' | h' | h') | h')
          · exact .inl h'
          · exact .inr (.inl h')
          · exact .inr (.inr (.inl h'))
          · exact .inr (.inr (.inr h'))
        · rintro ((h' | h' | h') | h')
          · have := hM _ h'; omega
          · omega
          · have := H2.out.drv.cells.own_lt h'; omega
          · have := H2.out.drv.cache.own_lt h'; omega
      intro v4 w4 ho4 hg4 hat4
      have h5 := H3.out.drv.newCache (by simp; omega) hg4 hat4 ho4
      have H5 := Lib.hid (H3.out.trans h5)
      have hbl4 := H3.out.drv.blk.grown hg4 (fun e => H3.out.drv.cache.ne_ H3.out.drv.blk (by decide) e.symm)
      obtain ⟨a4, b4, rfl⟩ := ho4.form
      obtain ⟨c4, f4, l4⟩ := hbl4.all
      clear h5 hg4 hat4 ho4 hbl4 hblk3
      refine hK _ _ ⟨fun _ => c4, ?_⟩; clear hK K
      apply rg_pure 12 rfl (by kernel_rfl) (fun _ _ _ h => h) rfl
      · (intro W; go_simp; try rfl)
      · (go_simp; try rfl)
      apply rg_pure 13 rfl (by kernel_rfl) (fun _ _ _ h => h) rfl
      · (intro W; go_simp; try rfl)
      · (go_simp; try rfl)
      apply rg_pure 14 rfl (by kernel_rfl) (fun _ _ _ h => h) rfl
      · (intro W; go_simp; try rfl)
      · (go_simp; try rfl)
      refine rg_free 15 (by kernel_rfl) (by kernel_rfl) rfl (fun K hK => ?_)
      go_simp
      refine hK _ _ ?_; clear hK K
      refine rg_done (by kernel_rfl) ?_
      go_wp2
      go_ret
      rw [hw.out]
      have h5 := H5.out
      simp only [List.length_append, List.length_cons, List.length_nil, Nat.zero_add] at h5
      exact ⟨rfl, _, h5⟩
end Go.Proofs.Ytkdjacmabeeceaa
