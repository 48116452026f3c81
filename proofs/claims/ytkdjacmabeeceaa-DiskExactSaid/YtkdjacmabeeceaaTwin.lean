/-
The contract of disk.Twin: a copy of a disk that shares no memory.
-/
import Derived.Test.YtkdjacmabeeceaaFlush
namespace Go.Proofs.Ytkdjacmabeeceaa
open Go.RowKit
attribute [local go_sem ↓] Go.wp_at_zero Go.wp_at_succ

def OM (M : Ms) (v : Value) : Ms := fun b => M b ∨ v.ownBlock = some b
/-- Two owned rows whose elements lie in neither: a cell of the first turned into one that reads the same. -/
theorem OwR.pair {α β : Type} [Rp α] [Rp β] {w : World} {M : Ms} {base g c j f : Nat} {e1 e2 : TypeId} {v2 : Value} {l1 : List α} {l2 : List β} (h1 : OwR w (OM M v2) base e1 (.slice (some ⟨g, 0, none⟩) l1.length c) l1)
    (h2 : OwR w (OM M (.slice (some ⟨g, 0, none⟩) l1.length c)) base e2 v2 l2) (hne : e1 ≠ e2) (hj : j < l1.length) (hf : f < Rp.sz α) (u : Value)
    (hE : ∀ cs, Rp.E w (OM (OM M v2) (.slice (some ⟨g, 0, none⟩) l1.length c)) cs l1[j] → Rp.E w (OM (OM M v2) (.slice (some ⟨g, 0, none⟩) l1.length c)) (cs.set f u) l1[j]) :
    OwR (w.setCell ⟨g, j * Rp.sz α + f, none⟩ u) (OM M v2) base e1 (.slice (some ⟨g, 0, none⟩) l1.length c) l1 ∧ OwR (w.setCell ⟨g, j * Rp.sz α + f, none⟩ u) (OM M (.slice (some ⟨g, 0, none⟩) l1.length c)) base e2 v2 l2 := by
  have hgr := grownBy_set w g (j * Rp.sz α + f) u
  have hv2 : v2.ownBlock ≠ some g := by
    intro e
    obtain ⟨xs, ho', _⟩ := h1
    obtain ⟨ys, ho'', _⟩ := h2
    rcases ho'.2 with ⟨h0, _⟩ | ⟨g1, cap, cur, h0, _, hh, _⟩
    · cases h0
    · cases h0
      rcases ho''.2 with ⟨rfl, _⟩ | ⟨g2, cap2, cur2, rfl, _, hh2, _⟩
      · simp [Value.ownBlock] at e
      · simp [Value.ownBlock] at e
        subst e
        rw [hh] at hh2
        injection hh2 with hh2
        injection hh2 with _ ht
        exact hne ht
  refine ⟨?_, h2.kept hgr (.inr hv2) (fun b e => .inr (by simpa [Value.ownBlock] using e))⟩
  obtain ⟨xs, ho, he⟩ := h1
  have s1 := (ho.stored (j * Rp.sz α + f) u).1
  obtain ⟨cs, hcl, hEcs, hcj⟩ := he.get (List.getElem?_eq_getElem hj)
  have hkeep : Keep w (OM (OM M v2) (.slice (some ⟨g, 0, none⟩) l1.length c)) (w.setCell ⟨g, j * Rp.sz α + f, none⟩ u) (OM (OM M v2) (.slice (some ⟨g, 0, none⟩) l1.length c)) :=
    fun b hb hm => ⟨hm, hgr.block b hb (fun e => hm (.inr (by simpa [Value.ownBlock] using e.symm)))⟩
  have hlen := he.length
  have hlt : j * Rp.sz α + Rp.sz α ≤ xs.length := by
    have : (j + 1) * Rp.sz α ≤ l1.length * Rp.sz α := Nat.mul_le_mul_right _ hj
    rw [Nat.succ_mul] at this
    omega
  have hp := Elems.put (xs' := xs.set (j * Rp.sz α + f) u) (y := l1[j]) (cs := cs.set f u) (he.mono fun cs x _ => Rp.mono hkeep) hj (by simp)
    (fun i hi => List.getElem?_set_ne (by omega)) (by simp [hcl]) (Rp.mono hkeep (hE cs hEcs)) (fun i hi => by
      by_cases hif : f = i
      · subst hif; rw [List.getElem?_set_self (by omega), List.getElem?_set_self (by omega)]
      · rw [List.getElem?_set_ne (by omega), List.getElem?_set_ne hif]; exact hcj i hi)
  rw [List.set_getElem_self] at hp
  exact ⟨_, s1, hp⟩

structure TwR (w : World) (M : Ms) (base b1 : Nat) (vc vk : Value) (d : Dis) : Prop where
  ge : base ≤ b1
  blk : Blk w b1 27 #[vc, vk, .int .i64 d.reqs, .int .i64 d.left]
  cells : OwR w (OM M vk) base 47 vc d.cells
  cache : OwR w (OM M vc) base 78 vk d.cache
theorem TwR.below {w w' : World} {M : Ms} {base b1 : Nat} {vc vk : Value} {d : Dis} (h : TwR w M base b1 vc vk d) (hb : Below w.heap.size w w') : TwR w' M base b1 vc vk d :=
  ⟨h.ge, h.blk.below hb, h.cells.below hb, h.cache.below hb⟩
/-- What the copies' elements keep away from. -/
def TM (M : Ms) (vc vk : Value) : Ms := OM (OM M vk) vc
theorem TwR.mok {w : World} {M : Ms} {base b1 : Nat} {vc vk : Value} {d : Dis} (h : TwR w M base b1 vc vk d) (hM : MOk w M) : MOk w (TM M vc vk) := by
  rintro b ((h' | h') | h')
  · exact hM b h'
  · exact h.cache.own_lt h'
  · exact h.cells.own_lt h'
theorem TwR.setC {w : World} {M : Ms} {base b1 g c j f : Nat} {vk : Value} {d : Dis} (h : TwR w M base b1 (.slice (some ⟨g, 0, none⟩) d.cells.length c) vk d) (hj : j < d.cells.length) (hf : f < 3) (u : Value)
    (hE : ∀ cs, Rp.E w (TM M (.slice (some ⟨g, 0, none⟩) d.cells.length c) vk) cs d.cells[j] → Rp.E w (TM M (.slice (some ⟨g, 0, none⟩) d.cells.length c) vk) (cs.set f u) d.cells[j]) :
    TwR (w.setCell ⟨g, j * 3 + f, none⟩ u) M base b1 (.slice (some ⟨g, 0, none⟩) d.cells.length c) vk d ∧ Below base w (w.setCell ⟨g, j * 3 + f, none⟩ u) := by
  have hgbd : g ≠ b1 := fun e => h.cells.ne_ h.blk (by decide) (by simp [Value.ownBlock, e])
  have hp := OwR.pair h.cells h.cache (by decide) hj hf u hE
  exact ⟨⟨h.ge, h.blk.far (by simpa using hgbd.symm) u, hp.1, hp.2⟩, Below.setCell (Below.refl base w) (show base ≤ (⟨g, j * 3 + f, none⟩ : Addr).block from h.cells.own_ge rfl) u⟩
theorem TwR.setK {w : World} {M : Ms} {base b1 g c j : Nat} {vc : Value} {d : Dis} (h : TwR w M base b1 vc (.slice (some ⟨g, 0, none⟩) d.cache.length c) d) (hj : j < d.cache.length) (u : Value)
    (hE : ∀ cs, Rp.E w (TM M vc (.slice (some ⟨g, 0, none⟩) d.cache.length c)) cs d.cache[j] → Rp.E w (TM M vc (.slice (some ⟨g, 0, none⟩) d.cache.length c)) (cs.set 1 u) d.cache[j]) :
    TwR (w.setCell ⟨g, j * 2 + 1, none⟩ u) M base b1 vc (.slice (some ⟨g, 0, none⟩) d.cache.length c) d ∧ Below base w (w.setCell ⟨g, j * 2 + 1, none⟩ u) := by
  have hgbd : g ≠ b1 := fun e => h.cache.ne_ h.blk (by decide) (by simp [Value.ownBlock, e])
  have hsw : ∀ {M : Ms} {a b : Value} {w : World} {cs : List Value} {x : Wri}, Rp.E w (OM (OM M a) b) cs x → Rp.E w (OM (OM M b) a) cs x := fun h => Rp.mono (Keep.less (by rintro b ((h | h) | h); exact .inl (.inl h); exact .inr h; exact .inl (.inr h))) h
  have hp := OwR.pair h.cache h.cells (by decide) hj (f := 1) (by decide) u (fun cs he => hsw (hE cs (hsw he)))
  exact ⟨⟨h.ge, h.blk.far (by simpa using hgbd.symm) u, hp.2, hp.1⟩, Below.setCell (Below.refl base w) (show base ≤ (⟨g, j * 2 + 1, none⟩ : Addr).block from h.cache.own_ge rfl) u⟩

set_option maxHeartbeats 4000000 in
theorem dtwin_any (v : Value) (d : Dis) (w : World) (M : Ms) (h : Rv w M v d) (hM : MOk w M) (hl : d.cells.length ≤ 1000000000) (hkl : d.cache.length ≤ 1000000000)
    (hbl : ∀ c ∈ d.cells, c.bytes.length ≤ 1000000000 ∧ c.old.length ≤ 1000000000) (hbk : ∀ c ∈ d.cache, c.bytes.length ≤ 1000000000) :
    Calls Try.prog 35 #[v] w fun e w' => ∃ r, e = .returned r ∧ Rv w' M r d ∧ Below w.heap.size w w' := by
  obtain ⟨c, k, rfl, hc, hk⟩ := rv_dis.1 h
  obtain ⟨ac, cc, rfl⟩ := hc.form
  obtain ⟨ak, ck, rfl⟩ := hk.form
  clear h
  have Hc := Lib.hid hc
  have Hk := Lib.hid hk
  clear hc hk
  have hB0 := Lib.hid (((Below.refl w.heap.size w).alloc (Nat.le_refl _) (.cells #[.slice ac d.cells.length cc, .slice ak d.cache.length ck, .int .i64 d.reqs, .int .i64 d.left] 27)).alloc (by simp) (.cells #[.slice none 0 0, .slice none 0 0, .int .i64 0, .int .i64 0] 27)).drew
  go_enter Try.func35, Try.ntmps35
  go_wp2_with fail
  have hblk := Lib.hid (((Blk.new w 27 #[.slice ac d.cells.length cc, .slice ak d.cache.length ck, .int .i64 d.reqs, .int .i64 d.left]).alloc (.cells #[.slice none 0 0, .slice none 0 0, .int .i64 0, .int .i64 0] 27)).drew)
  have hblk2 := Lib.hid (Blk.new (w.alloc (.cells #[.slice ac d.cells.length cc, .slice ak d.cache.length ck, .int .i64 d.reqs, .int .i64 d.left] 27)) 27 #[.slice none 0 0, .slice none 0 0, .int .i64 0, .int .i64 0]).drew
  have hb2 : (w.alloc (.cells #[.slice ac d.cells.length cc, .slice ak d.cache.length ck, .int .i64 d.reqs, .int .i64 d.left] 27)).heap.size = w.heap.size + 1 := by simp
  rw [hb2] at hblk2
  refine rg_enter [0, 1, 3, 4] (fun w' => ∀ i, w'.cell? ⟨w.heap.size, i, none⟩ = #[Value.slice ac d.cells.length cc, .slice ak d.cache.length ck, .int .i64 d.reqs, .int .i64 d.left][i]?) (by kernel_rfl) ?_
  generalize ((w.alloc (.cells #[.slice ac d.cells.length cc, .slice ak d.cache.length ck, .int .i64 d.reqs, .int .i64 d.left] 27)).alloc (.cells #[.slice none 0 0, .slice none 0 0, .int .i64 0, .int .i64 0] 27)).drew = w0 at *
  apply rg_take 0 rfl (by kernel_rfl) (fun _ _ _ h => h) (hblk.out.cell) rfl
  · (rintro W hW; go_simp; try rfl)
  · (go_simp; try rfl)
  apply rg_take 1 rfl (by kernel_rfl) (fun _ _ _ h => h) (hblk.out.cell) rfl
  · (rintro W hW; go_simp; try rfl)
  · (go_simp; try rfl)
  apply rg_take 3 rfl (by kernel_rfl) (fun _ _ _ h => h) (hblk.out.cell) rfl
  · (rintro W hW; go_simp; try rfl)
  · (go_simp; try rfl)
  apply rg_take 4 rfl (by kernel_rfl) (fun _ _ _ h => h) (hblk.out.cell) rfl
  · (rintro W hW; go_simp; try rfl)
  · (go_simp; try rfl)
  refine rg_only 2 (by kernel_rfl) rfl (fun K hK => ?_)
  go_simp
  refine (cclone_any _ d.cells _ (M.new w.heap.size) (Hc.out.mono (Keep.fresh hB0.out)) hl).mono ?_
  rintro e w1 ⟨vc, rfl, hc1, hB1⟩
  obtain ⟨A1, n1, rfl⟩ := hc1.form
  have hblk1 := Lib.hid (hblk.out.below hB1)
  have hblk21 := Lib.hid (hblk2.out.below hB1)
  refine hK _ _ ⟨fun _ => hblk1.out.cell, ?_⟩; clear hK K
  apply rg_pure 6 rfl (by kernel_rfl) (fun _ _ _ h => h) rfl
  · (intro W; go_simp; try rfl)
  · (go_simp; try rfl)
  have hB1' := Lib.hid (hB0.out.trans (hB1.mono hB0.out.size))
  refine rg_only 5 (by kernel_rfl) rfl (fun K hK => ?_)
  go_simp
  refine (wclone_any _ d.cache _ (M.new w.heap.size) (Hk.out.mono (Keep.fresh hB1'.out)) hkl).mono ?_
  rintro e w2 ⟨vk, rfl, hk2, hB2⟩
  obtain ⟨A2, n2, rfl⟩ := hk2.form
  have hblk12 := Lib.hid (hblk1.out.below hB2)
  have hblk22 := Lib.hid (hblk21.out.below hB2)
  obtain ⟨c2, f2, l2⟩ := hblk12.out.all
  have hB2' := Lib.hid (hB1'.out.trans (hB2.mono hB1'.out.size))
  have hc2 := Lib.hid ((hc1.below hB2).mono_base hB0.out.size)
  have hk2' := Lib.hid (hk2.mono_base hB1'.out.size)
  clear hk2 hc1 hB1 hB2
  refine hK _ _ ⟨fun _ => c2, ?_⟩; clear hK K
  refine rg_free 7 (by kernel_rfl) (by kernel_rfl) rfl (fun K hK => ?_)
  go_simp
  refine hK _ _ ?_; clear hK K
  apply rg_pure 8 rfl (by kernel_rfl) (fun _ _ _ h => h) rfl
  · (intro W; go_simp; try rfl)
  · (go_simp; try rfl)
  refine rg_free 9 (by kernel_rfl) (by kernel_rfl) rfl (fun K hK => ?_)
  go_simp
  refine hK _ _ ?_; clear hK K
  refine rg_done (by kernel_rfl) ?_
  have hblk3 := Lib.hid ((hblk12.out.set_ 0 (.slice A1 d.cells.length n1)).set_ 1 (.slice A2 d.cache.length n2))
  have hblk4 := Lib.hid ((hblk22.out.far (p := ⟨w.heap.size, 0, none⟩) (Nat.succ_ne_self _) (.slice A1 d.cells.length n1)).far (p := ⟨w.heap.size, 1, none⟩) (Nat.succ_ne_self _) (.slice A2 d.cache.length n2))
  have hMn : (M.new w.heap.size) w.heap.size := .inr (Nat.le_refl _)
  have hc3 := Lib.hid ((hc2.out.setCell (p := ⟨w.heap.size, 0, none⟩) (hc2.out.ne_ hblk12.out (by decide)) hMn (.slice A1 d.cells.length n1)).setCell (p := ⟨w.heap.size, 1, none⟩) (hc2.out.ne_ hblk12.out (by decide)) hMn (.slice A2 d.cache.length n2))
  have hk3 := Lib.hid ((hk2'.out.setCell (p := ⟨w.heap.size, 0, none⟩) (hk2'.out.ne_ hblk12.out (by decide)) hMn (.slice A1 d.cells.length n1)).setCell (p := ⟨w.heap.size, 1, none⟩) (hk2'.out.ne_ hblk12.out (by decide)) hMn (.slice A2 d.cache.length n2))
  have hB3 := Lib.hid ((hB2'.out.setCell (p := ⟨w.heap.size, 0, none⟩) (Nat.le_refl _) (.slice A1 d.cells.length n1)).setCell (p := ⟨w.heap.size, 1, none⟩) (Nat.le_refl _) (.slice A2 d.cache.length n2))
  clear c2 f2 l2 hblk12 hblk22 hc2 hk2' hB2' hblk hblk2 hblk1 hblk21 hB1'
  generalize (w2.setCell ⟨w.heap.size, 0, none⟩ (.slice A1 d.cells.length n1)).setCell ⟨w.heap.size, 1, none⟩ (.slice A2 d.cache.length n2) = w3 at *
  have T3 : TwR w3 (M.and (w.heap.size + 1)) w.heap.size w.heap.size (.slice A1 d.cells.length n1) (.slice A2 d.cache.length n2) d := ⟨Nat.le_refl _, hblk3.out, hc3.out.less (by
    rintro b ((h | h) | h)
    · exact .inl h
    · exact .inr (by omega)
    · exact .inr (hk3.out.own_ge h)), hk3.out.less (by
    rintro b ((h | h) | h)
    · exact .inl h
    · exact .inr (by omega)
    · exact .inr (hc3.out.own_ge h))⟩
  have T3 := Lib.hid T3
  have c3 := hblk3.out.cell
  simp at c3
  clear hblk3 hc3 hk3 hMn
  go_wp2
  have J := Lib.hid (And.intro T3.out (And.intro hB3.out hblk4.out))
  clear hblk4 T3 hB3 hB0 Hc Hk
  go_loopw [18] (fun i wr => ∃ k : Nat, k ≤ d.cells.length ∧ i = .int .i64 k ∧ Hid (TwR wr (M.and (w.heap.size + 1)) w.heap.size w.heap.size (.slice A1 d.cells.length n1) (.slice A2 d.cache.length n2) d ∧ Below w.heap.size w wr ∧ Blk wr (w.heap.size + 1) 27 #[.slice none 0 0, .slice none 0 0, .int .i64 0, .int .i64 0])) (fun i _ => d.cells.length - (intOf i).toNat)
  case atStart => exact ⟨0, Nat.zero_le _, rfl, J⟩
  case round =>
    obtain ⟨k, hk, rfl, HS⟩ := hrel
    by_cases hlt : k < d.cells.length
    · obtain ⟨g, cc, vb, vo, hvv, hg, hf, e0, e1, e2, r1, r2⟩ := celO_at HS.out.1.cells hlt
      simp only [Value.slice.injEq, true_and] at hvv
      obtain ⟨rfl, rfl⟩ := hvv
      obtain ⟨ab, cb, rfl⟩ := r1.form
      obtain ⟨ao, co, rfl⟩ := r2.form
      have c1 := Lib.hid HS.out.1.blk.cell
      have hB1 := Lib.hid (((Below.refl wr.heap.size wr).alloc (Nat.le_refl _) (.cells #[.int .i64 d.cells[k].state, .slice ab d.cells[k].bytes.length cb, .slice ao d.cells[k].old.length co] 47)).drew)
      have hx4 := Lib.hid (Blk.new wr 47 #[.int .i64 d.cells[k].state, .slice ab d.cells[k].bytes.length cb, .slice ao d.cells[k].old.length co]).drew
      have R1 := Lib.hid r1
      have R2 := Lib.hid r2
      clear r1 r2 hf
      have hw1 : wr.heap.size < (wr.alloc (.cells #[.int .i64 d.cells[k].state, .slice ab d.cells[k].bytes.length cb, .slice ao d.cells[k].old.length co] 47)).drew.heap.size := hx4.out.lt
      have T1 := Lib.hid (HS.out.1.below hB1.out)
      have U1 := Lib.hid (R1.out.mono (Keep.below hB1.out))
      have U2 := Lib.hid (R2.out.mono (Keep.below hB1.out))
      have hB1w := Lib.hid (HS.out.2.1.trans (hB1.out.mono HS.out.2.1.size))
      have hz := Lib.hid (HS.out.2.2.below hB1.out)
      have hgx : g < wr.heap.size := HS.out.1.cells.own_lt rfl
      have hbx := HS.out.1.blk.lt
      clear c1 R1 R2
      go_wp2_with fail
      clear e0 e1 e2
      refine rg_enter [0, 1, 2, 3, 4, 5, 6, 7, 9, 10, 12, 13] (fun w' => (∀ i, w'.cell? ⟨w.heap.size, i, none⟩ = #[Value.slice (some ⟨g, 0, none⟩) d.cells.length n1, .slice A2 d.cache.length n2, .int .i64 d.reqs, .int .i64 d.left][i]?) ∧ ∀ i, w'.cell? ⟨wr.heap.size, i, none⟩ = #[Value.int .i64 d.cells[k].state, .slice ab d.cells[k].bytes.length cb, .slice ao d.cells[k].old.length co][i]?) (by kernel_rfl) ?_
      generalize (wr.alloc (.cells #[.int .i64 d.cells[k].state, .slice ab d.cells[k].bytes.length cb, .slice ao d.cells[k].old.length co] 47)).drew = w1 at *
      have hS := Lib.hid (And.intro T1.out.blk.cell hx4.out.cell)
      have hMT := Lib.hid (T1.out.mok (MOk.boxed hM hB1w.out.size hz.out.lt))
      apply rg_take 0 rfl (by kernel_rfl) (fun _ _ _ h => h) (hS.out) rfl
      · (rintro W ⟨s0, s1⟩; go_simp; try rfl)
      · (go_simp; try rfl)
      apply rg_take 1 rfl (by kernel_rfl) (fun _ _ _ h => h) (hS.out) rfl
      · (rintro W ⟨s0, s1⟩; go_simp; try rfl)
      · (go_simp; try rfl)
      apply rg_take 2 rfl (by kernel_rfl) (fun _ _ _ h => h) (hS.out) rfl
      · (rintro W ⟨s0, s1⟩; go_simp; try rfl)
      · (go_simp; try rfl)
      apply rg_take 3 rfl (by kernel_rfl) (fun _ _ _ h => h) (hS.out) rfl
      · (rintro W ⟨s0, s1⟩; go_simp; try rfl)
      · (go_simp; try rfl)
      apply rg_take 4 rfl (by kernel_rfl) (fun _ _ _ h => h) (hS.out) rfl
      · (rintro W ⟨s0, s1⟩; go_simp; try rfl)
      · (go_simp; try rfl)
      apply rg_take 5 rfl (by kernel_rfl) (fun _ _ _ h => h) (hS.out) rfl
      · (rintro W ⟨s0, s1⟩; go_simp; try rfl)
      · (go_simp; try rfl)
      apply rg_take 6 rfl (by kernel_rfl) (fun _ _ _ h => h) (hS.out) rfl
      · (rintro W ⟨s0, s1⟩; go_simp; try rfl)
      · (go_simp; try rfl)
      apply rg_take 7 rfl (by kernel_rfl) (fun _ _ _ h => h) (hS.out) rfl
      · (rintro W ⟨s0, s1⟩; go_simp; try rfl)
      · (go_simp; try rfl)
      apply rg_take 9 rfl (by kernel_rfl) (fun _ _ _ h => h) (hS.out) rfl
      · (rintro W ⟨s0, s1⟩; go_simp; try rfl)
      · (go_simp; try rfl)
      apply rg_take 10 rfl (by kernel_rfl) (fun _ _ _ h => h) (hS.out) rfl
      · (rintro W ⟨s0, s1⟩; go_simp; try rfl)
      · (go_simp; try rfl)
      have hbk := hbl d.cells[k] (List.getElem_mem hlt)
      refine rg_only 8 (by kernel_rfl) rfl (fun K hK => ?_)
      go_simp
      refine (bclone_any _ d.cells[k].bytes _ _ (rv_list.2 U1.out) hMT.out hbk.1).mono ?_
      rintro e w2 ⟨ra, rfl, hr2, hB2⟩
      have T2 := Lib.hid (T1.out.below hB2)
      have V2 := Lib.hid (rv_list.1 hr2)
      obtain ⟨ra1, ra2, rfl⟩ := V2.out.form
      have U22 := Lib.hid (U2.out.mono (Keep.below hB2))
      have hx2 := Lib.hid (hx4.out.below hB2)
      have hS2 := Lib.hid (And.intro T2.out.blk.cell hx2.out.cell)
      have hz2 := Lib.hid (hz.out.below hB2)
      have hBw2 := Lib.hid (hB1w.out.trans (hB2.mono hB1w.out.size))
      have hMT2 := Lib.hid (hMT.out.below hB2.size)
      clear hr2 hB2
      refine hK _ _ ⟨fun _ => hS2.out, ?_⟩; clear hK K
      refine rg_only 11 (by kernel_rfl) rfl (fun K hK => ?_)
      go_simp
      refine (bclone_any _ d.cells[k].old _ _ (rv_list.2 U22.out) hMT2.out hbk.2).mono ?_
      rintro e w3 ⟨rb, rfl, hr3, hB3⟩
      have T3 := Lib.hid (T2.out.below hB3)
      have V3 := Lib.hid (rv_list.1 hr3)
      obtain ⟨rb1, rb2, rfl⟩ := V3.out.form
      have V23 := Lib.hid (V2.out.mono (Keep.below hB3))
      have hx3 := Lib.hid (hx2.out.below hB3)
      have hS3 := Lib.hid (And.intro T3.out.blk.cell hx3.out.cell)
      have hz3 := Lib.hid (hz2.out.below hB3)
      have hBw3 := Lib.hid (hBw2.out.trans (hB3.mono hBw2.out.size))
      clear hr3 hB3
      refine hK _ _ ⟨fun _ => hS3.out, ?_⟩; clear hK K
      apply rg_take 12 rfl (by kernel_rfl) (fun _ _ _ h => h) (hS3.out) rfl
      · (rintro W ⟨s0, s1⟩; go_simp; try rfl)
      · (go_simp; try rfl)
      apply rg_take 13 rfl (by kernel_rfl) (fun _ _ _ h => h) (hS3.out) rfl
      · (rintro W ⟨s0, s1⟩; go_simp; try rfl)
      · (go_simp; try rfl)
      obtain ⟨g', cc', vb', vo', hvv', -, hf3, e0, e1, e2, -, -⟩ := celO_at T3.out.cells hlt
      simp only [Value.slice.injEq, Option.some.injEq, Addr.mk.injEq, true_and, and_true] at hvv'
      obtain ⟨rfl, rfl⟩ := hvv'
      refine rg_only 14 (by kernel_rfl) rfl (fun K hK => ?_)
      go_simp
      obtain ⟨T4, hB4⟩ := T3.out.setC (f := 1) hlt (by omega) (.slice ra1 d.cells[k].bytes.length ra2) (fun cs hcs => by
        obtain ⟨b', o', rfl, q1, q2⟩ := hcs
        exact ⟨_, _, rfl, V23.out, q2⟩)
      have T4 := Lib.hid T4
      have hgr := grownBy_set w3 g (k * 3 + 1) (.slice ra1 d.cells[k].bytes.length ra2)
      have V4 := Lib.hid (V3.out.mono (M' := TM (M.and (w.heap.size + 1)) (Value.slice (some ⟨g, 0, none⟩) d.cells.length n1) (Value.slice A2 d.cache.length n2)) (fun b hb hm => ⟨hm, hgr.block b hb (fun e => hm (.inr (by simpa [Value.ownBlock] using e.symm)))⟩))
      have hx4 := Lib.hid (hx3.out.far (p := ⟨g, k * 3 + 1, none⟩) (by simp; omega) (.slice ra1 d.cells[k].bytes.length ra2))
      have hS4 := Lib.hid (And.intro T4.out.blk.cell hx4.out.cell)
      have hz4 := Lib.hid (hz3.out.far (p := ⟨g, k * 3 + 1, none⟩) (fun e => T3.out.cells.ne_ hz3.out (by decide) (by rw [e]; rfl)) (.slice ra1 d.cells[k].bytes.length ra2))
      have hBw4 := Lib.hid (hBw3.out.trans hB4)
      clear hB4 hgr T3 hx3 hS3 hz3 hBw3 V3 V23 e0 e1 e2
      generalize w3.setCell ⟨g, k * 3 + 1, none⟩ (.slice ra1 d.cells[k].bytes.length ra2) = w4 at *
      refine hK _ _ ⟨fun _ => hS4.out, ?_⟩; clear hK K
      apply rg_pure 15 rfl (by kernel_rfl) (fun _ _ _ h => h) rfl
      · (intro W; go_simp; try rfl)
      · (go_simp; try rfl)
      apply rg_pure 16 rfl (by kernel_rfl) (fun _ _ _ h => h) rfl
      · (intro W; go_simp; try rfl)
      · (go_simp; try rfl)
      obtain ⟨g', cc', vb', vo', hvv', -, hf4, e0, e1, e2, -, -⟩ := celO_at T4.out.cells hlt
      simp only [Value.slice.injEq, Option.some.injEq, Addr.mk.injEq, true_and, and_true] at hvv'
      obtain ⟨rfl, rfl⟩ := hvv'
      refine rg_free 17 (by kernel_rfl) (by kernel_rfl) rfl (fun K hK => ?_)
      go_simp
      obtain ⟨T5, hB5⟩ := T4.out.setC (f := 2) hlt (by omega) (.slice rb1 d.cells[k].old.length rb2) (fun cs hcs => by
        obtain ⟨b', o', rfl, q1, q2⟩ := hcs
        exact ⟨_, _, rfl, q1, V4.out⟩)
      have hz5 := hz4.out.far (p := ⟨g, k * 3 + 2, none⟩) (fun e => T4.out.cells.ne_ hz4.out (by decide) (by rw [e]; rfl)) (.slice rb1 d.cells[k].old.length rb2)
      have H5 := Lib.hid (And.intro T5 (And.intro (hBw4.out.trans hB5) hz5))
      refine hK _ _ ?_; clear hK K
      refine rg_done (by kernel_rfl) ?_
      go_wp2
      go_roundw
      case rel => exact ⟨k + 1, by omega, by go_num, H5⟩
      case measure => simp [intOf]; omega
    · obtain rfl : k = d.cells.length := by omega
      have c4 := HS.out.1.blk.cell
      go_wp2
      clear c4
      have J2 := HS
      go_loopw [43] (fun i wr => ∃ k : Nat, k ≤ d.cache.length ∧ i = .int .i64 k ∧ Hid (TwR wr (M.and (w.heap.size + 1)) w.heap.size w.heap.size (.slice A1 d.cells.length n1) (.slice A2 d.cache.length n2) d ∧ Below w.heap.size w wr ∧ Blk wr (w.heap.size + 1) 27 #[.slice none 0 0, .slice none 0 0, .int .i64 0, .int .i64 0])) (fun i _ => d.cache.length - (intOf i).toNat)
      case atStart => exact ⟨0, Nat.zero_le _, rfl, J2⟩
      case round =>
        obtain ⟨k, hk, rfl, HS⟩ := hrel
        by_cases hlt : k < d.cache.length
        · obtain ⟨g, cc, vb, hvv, hg, e0, e1, r1⟩ := wriO_at HS.out.1.cache hlt
          simp only [Value.slice.injEq, true_and] at hvv
          obtain ⟨rfl, rfl⟩ := hvv
          obtain ⟨ab, cb, rfl⟩ := r1.form
          have hB1 := Lib.hid (((Below.refl wr.heap.size wr).alloc (Nat.le_refl _) (.cells #[.int .i64 d.cache[k].addr, .slice ab d.cache[k].bytes.length cb] 78)).drew)
          have hx4 := Lib.hid (Blk.new wr 78 #[.int .i64 d.cache[k].addr, .slice ab d.cache[k].bytes.length cb]).drew
          have R1 := Lib.hid r1
          have hw1 : wr.heap.size < (wr.alloc (.cells #[.int .i64 d.cache[k].addr, .slice ab d.cache[k].bytes.length cb] 78)).drew.heap.size := hx4.out.lt
          have T1 := Lib.hid (HS.out.1.below hB1.out)
          have U1 := Lib.hid ((SlR.mono R1.out (Keep.below hB1.out)).mono (M' := TM (M.and (w.heap.size + 1)) (.slice A1 d.cells.length n1) (.slice (some ⟨g, 0, none⟩) d.cache.length n2)) (Keep.less (by
            rintro b ((h | h) | h)
            · exact .inl (.inl h)
            · exact .inr h
            · exact .inl (.inr h))))
          have hB1w := Lib.hid (HS.out.2.1.trans (hB1.out.mono HS.out.2.1.size))
          have hz := Lib.hid (HS.out.2.2.below hB1.out)
          have hgx : g < wr.heap.size := HS.out.1.cache.own_lt rfl
          have hbx := HS.out.1.blk.lt
          clear r1 R1
          go_wp2_with fail
          clear e0 e1
          refine rg_enter [0, 1, 2, 3, 4] (fun w' => (∀ i, w'.cell? ⟨w.heap.size, i, none⟩ = #[Value.slice A1 d.cells.length n1, .slice (some ⟨g, 0, none⟩) d.cache.length n2, .int .i64 d.reqs, .int .i64 d.left][i]?) ∧ ∀ i, w'.cell? ⟨wr.heap.size, i, none⟩ = #[Value.int .i64 d.cache[k].addr, .slice ab d.cache[k].bytes.length cb][i]?) (by kernel_rfl) ?_
          generalize (wr.alloc (.cells #[.int .i64 d.cache[k].addr, .slice ab d.cache[k].bytes.length cb] 78)).drew = w1 at *
          have hS := Lib.hid (And.intro T1.out.blk.cell hx4.out.cell)
          have hMT := Lib.hid (T1.out.mok (MOk.boxed hM hB1w.out.size hz.out.lt))
          apply rg_take 0 rfl (by kernel_rfl) (fun _ _ _ h => h) (hS.out) rfl
          · (rintro W ⟨s0, s1⟩; go_simp; try rfl)
          · (go_simp; try rfl)
          apply rg_take 1 rfl (by kernel_rfl) (fun _ _ _ h => h) (hS.out) rfl
          · (rintro W ⟨s0, s1⟩; go_simp; try rfl)
          · (go_simp; try rfl)
          apply rg_take 2 rfl (by kernel_rfl) (fun _ _ _ h => h) (hS.out) rfl
          · (rintro W ⟨s0, s1⟩; go_simp; try rfl)
          · (go_simp; try rfl)
          apply rg_take 3 rfl (by kernel_rfl) (fun _ _ _ h => h) (hS.out) rfl
          · (rintro W ⟨s0, s1⟩; go_simp; try rfl)
          · (go_simp; try rfl)
          apply rg_take 4 rfl (by kernel_rfl) (fun _ _ _ h => h) (hS.out) rfl
          · (rintro W ⟨s0, s1⟩; go_simp; try rfl)
          · (go_simp; try rfl)
          have hbk' := hbk d.cache[k] (List.getElem_mem hlt)
          refine rg_only 5 (by kernel_rfl) rfl (fun K hK => ?_)
          go_simp
          refine (bclone_any _ d.cache[k].bytes _ _ (rv_list.2 U1.out) hMT.out hbk').mono ?_
          rintro e w2 ⟨ra, rfl, hr2, hB2⟩
          have T2 := Lib.hid (T1.out.below hB2)
          have V2 := Lib.hid (rv_list.1 hr2)
          obtain ⟨ra1, ra2, rfl⟩ := V2.out.form
          have hx2 := Lib.hid (hx4.out.below hB2)
          have hS2 := Lib.hid (And.intro T2.out.blk.cell hx2.out.cell)
          have hz2 := Lib.hid (hz.out.below hB2)
          have hBw2 := Lib.hid (hB1w.out.trans (hB2.mono hB1w.out.size))
          clear hr2 hB2
          refine hK _ _ ⟨fun _ => hS2.out, ?_⟩; clear hK K
          apply rg_pure 6 rfl (by kernel_rfl) (fun _ _ _ h => h) rfl
          · (intro W; go_simp; try rfl)
          · (go_simp; try rfl)
          apply rg_pure 7 rfl (by kernel_rfl) (fun _ _ _ h => h) rfl
          · (intro W; go_simp; try rfl)
          · (go_simp; try rfl)
          obtain ⟨g', cc', vb', hvv', -, e0, e1, -⟩ := wriO_at T2.out.cache hlt
          simp only [Value.slice.injEq, Option.some.injEq, Addr.mk.injEq, true_and, and_true] at hvv'
          obtain ⟨rfl, rfl⟩ := hvv'
          obtain ⟨g', cc', cs', hvv', -, -, hf2, -, -⟩ := OwR.at_ T2.out.cache hlt
          simp only [Value.slice.injEq, Option.some.injEq, Addr.mk.injEq, true_and, and_true] at hvv'
          obtain ⟨rfl, rfl⟩ := hvv'
          refine rg_free 8 (by kernel_rfl) (by kernel_rfl) rfl (fun K hK => ?_)
          go_simp
          obtain ⟨T5, hB5⟩ := T2.out.setK hlt (.slice ra1 d.cache[k].bytes.length ra2) (fun cs hcs => by
            obtain ⟨b', rfl, q1⟩ := hcs
            exact ⟨_, rfl, V2.out⟩)
          have hz5 := hz2.out.far (p := ⟨g, k * 2 + 1, none⟩) (fun e => T2.out.cache.ne_ hz2.out (by decide) (by rw [e]; rfl)) (.slice ra1 d.cache[k].bytes.length ra2)
          have H5 := Lib.hid (And.intro T5 (And.intro (hBw2.out.trans hB5) hz5))
          refine hK _ _ ?_; clear hK K
          refine rg_done (by kernel_rfl) ?_
          go_wp2
          go_roundw
          case rel => exact ⟨k + 1, by omega, by go_num, H5⟩
          case measure => simp [intOf]; omega
        · obtain rfl : k = d.cache.length := by omega
          obtain ⟨c5, f5, l5⟩ := HS.out.1.blk.all
          obtain ⟨c6, f6, l6⟩ := HS.out.2.2.all
          go_wp2
          have hx := ((((HS.out.2.2.set_ 0 (.slice A1 d.cells.length n1)).set_ 1 (.slice A2 d.cache.length n2)).set_ 2 (.int .i64 d.reqs)).set_ 3 (.int .i64 d.left)).cell
          have n1' := HS.out.1.cells.ne_ HS.out.2.2 (by decide)
          have n2' := HS.out.1.cache.ne_ HS.out.2.2 (by decide)
          have m1 : (OM (M.and (w.heap.size + 1)) (.slice A2 d.cache.length n2)) (w.heap.size + 1) := .inl (.inr rfl)
          have m2 : (OM (M.and (w.heap.size + 1)) (.slice A1 d.cells.length n1)) (w.heap.size + 1) := .inl (.inr rfl)
          have q1 := (((HS.out.1.cells.setCell (p := ⟨w.heap.size + 1, 0, none⟩) n1' m1 (.slice A1 d.cells.length n1)).setCell (p := ⟨w.heap.size + 1, 1, none⟩) n1' m1 (.slice A2 d.cache.length n2)).setCell (p := ⟨w.heap.size + 1, 2, none⟩) n1' m1 (.int .i64 d.reqs)).setCell (p := ⟨w.heap.size + 1, 3, none⟩) n1' m1 (.int .i64 d.left)
          have q2 := (((HS.out.1.cache.setCell (p := ⟨w.heap.size + 1, 0, none⟩) n2' m2 (.slice A1 d.cells.length n1)).setCell (p := ⟨w.heap.size + 1, 1, none⟩) n2' m2 (.slice A2 d.cache.length n2)).setCell (p := ⟨w.heap.size + 1, 2, none⟩) n2' m2 (.int .i64 d.reqs)).setCell (p := ⟨w.heap.size + 1, 3, none⟩) n2' m2 (.int .i64 d.left)
          have q3 := (((HS.out.2.1.setCell (p := ⟨w.heap.size + 1, 0, none⟩) (Nat.le_succ _) (.slice A1 d.cells.length n1)).setCell (p := ⟨w.heap.size + 1, 1, none⟩) (Nat.le_succ _) (.slice A2 d.cache.length n2)).setCell (p := ⟨w.heap.size + 1, 2, none⟩) (Nat.le_succ _) (.int .i64 d.reqs)).setCell (p := ⟨w.heap.size + 1, 3, none⟩) (Nat.le_succ _) (.int .i64 d.left)
          clear c5 f5 l5 c6 f6 l6 HS J J2 c3 T3
          generalize (((wr.setCell ⟨w.heap.size + 1, 0, none⟩ (.slice A1 d.cells.length n1)).setCell ⟨w.heap.size + 1, 1, none⟩ (.slice A2 d.cache.length n2)).setCell ⟨w.heap.size + 1, 2, none⟩ (.int .i64 d.reqs)).setCell ⟨w.heap.size + 1, 3, none⟩ (.int .i64 d.left) = w9 at *
          refine bodyPost_ret (v := .agg #[.slice A1 d.cells.length n1, .slice A2 d.cache.length n2, .int .i64 d.reqs, .int .i64 d.left]) (by simp [results, Try.results35, go_sem, hx]) rfl ?_
          exact ⟨_, rfl, rv_dis.2 ⟨_, _, rfl, (q1.less (fun b h => .inl (.inl h))).sl hM.new, (q2.less (fun b h => .inl (.inl h))).sl hM.new⟩, q3⟩
end Go.Proofs.Ytkdjacmabeeceaa
