/-
The reference's disk: Own, request, done.
-/
import Derived.Test.YtkdjacmabeeceaaRDrv
import Derived.Test.YtkdjacmabeeceaaKTwin2
import Derived.Test.YtkdjacmabeeceaaVar
import Derived.Test.YtkdjacmabeeceaaRgn3
namespace Go.Proofs.Ytkdjacmabeeceaa
open Go.RowKit
attribute [local go_sem ↓] Go.wp_at_zero Go.wp_at_succ

/-- One value of an owned row's element stored anew. -/
theorem OwR.setF' {α : Type} [Rp α] {w : World} {M : Ms} {base g c j f : Nat} {e : TypeId} {n : Nat} {l : List α} (h : OwR w M base e (.slice (some ⟨g, 0, none⟩) n c) l) (hj : j < l.length) (hf : f < Rp.sz α) (u : Value) (y : α)
    (hE : ∀ cs, Rp.E w (OM M (.slice (some ⟨g, 0, none⟩) n c)) cs l[j] → Rp.E w (OM M (.slice (some ⟨g, 0, none⟩) n c)) (cs.set f u) y) :
    OwR (w.setCell ⟨g, j * Rp.sz α + f, none⟩ u) M base e (.slice (some ⟨g, 0, none⟩) n c) (l.set j y) := by
  have hgr := grownBy_set w g (j * Rp.sz α + f) u
  obtain ⟨A', c', hv⟩ := h.form
  simp only [Value.slice.injEq] at hv
  obtain ⟨-, hnl, -⟩ := hv
  subst hnl
  obtain ⟨xs, ho, he⟩ := h
  have s1 := (ho.stored (j * Rp.sz α + f) u).1
  obtain ⟨cs, hcl, hEcs, hcj⟩ := he.get (List.getElem?_eq_getElem hj)
  have hkeep : Keep w (OM M (.slice (some ⟨g, 0, none⟩) l.length c)) (w.setCell ⟨g, j * Rp.sz α + f, none⟩ u) (OM M (.slice (some ⟨g, 0, none⟩) l.length c)) :=
    fun b hb hm => ⟨hm, hgr.block b hb (fun e => hm (.inr (by simpa [Value.ownBlock] using e.symm)))⟩
  have hlen := he.length
  have hlt : j * Rp.sz α + Rp.sz α ≤ xs.length := by
    have : (j + 1) * Rp.sz α ≤ l.length * Rp.sz α := Nat.mul_le_mul_right _ hj
    rw [Nat.succ_mul] at this
    omega
  have hp := Elems.put (xs' := xs.set (j * Rp.sz α + f) u) (y := y) (cs := cs.set f u) (he.mono fun cs x _ => Rp.mono hkeep) hj (by simp)
    (fun i hi => List.getElem?_set_ne (by omega)) (by simp [hcl]) (Rp.mono hkeep (hE cs hEcs)) (fun i hi => by
      by_cases hif : f = i
      · subst hif; rw [List.getElem?_set_self (by omega), List.getElem?_set_self (by omega)]
      · rw [List.getElem?_set_ne (by omega), List.getElem?_set_ne hif]; exact hcj i hi)
  exact ⟨_, by rw [List.length_set]; exact s1, hp⟩
theorem RfR.field {w : World} {M : Ms} {base bd g c n j f : Nat} {vk : Value} {d : Dis} (h : RfR w M base bd (.slice (some ⟨g, 0, none⟩) n c) vk d) (hbase : base ≤ w.heap.size) (hj : j < d.cells.length) (hf : f < 3) (u : Value) (y : Cel)
    (hE : ∀ cs, Rp.E w (DA M bd (.slice (some ⟨g, 0, none⟩) n c) vk) cs d.cells[j] → Rp.E w (DA M bd (.slice (some ⟨g, 0, none⟩) n c) vk) (cs.set f u) y) :
    RStep w M base bd (.slice (some ⟨g, 0, none⟩) n c) vk (w.setCell ⟨g, j * 3 + f, none⟩ u) (.slice (some ⟨g, 0, none⟩) n c) vk { d with cells := d.cells.set j y } := by
  have hgr := grownBy_set w g (j * 3 + f) u
  have hgbd : g ≠ bd := fun e => h.cells.ne_ h.blk (by decide) (by simp [Value.ownBlock, e])
  have a1 : ∀ b, DA M bd (.slice (some ⟨g, 0, none⟩) n c) vk b → OM (DM M bd vk) (.slice (some ⟨g, 0, none⟩) n c) b := by
    rintro b (h' | h' | h' | h')
    · exact .inl (.inl h')
    · exact .inl (.inr (.inl h'))
    · exact .inr h'
    · exact .inl (.inr (.inr h'))
  have a2 : ∀ b, OM (DM M bd vk) (.slice (some ⟨g, 0, none⟩) n c) b → DA M bd (.slice (some ⟨g, 0, none⟩) n c) vk b := by
    rintro b ((h' | h' | h') | h')
    · exact .inl h'
    · exact .inr (.inl h')
    · exact .inr (.inr (.inr h'))
    · exact .inr (.inr (.inl h'))
  have hvk : vk.ownBlock ≠ some g := by
    intro e
    obtain ⟨xs, ho', _⟩ := h.cells
    obtain ⟨ys, ho'', _⟩ := h.cache
    rcases ho'.2 with ⟨h0, _⟩ | ⟨g1, cap, cur, h0, _, hh, _⟩
    · cases h0
    · cases h0
      rcases ho''.2 with ⟨rfl, _⟩ | ⟨g2, cap2, cur2, rfl, _, hh2, _⟩
      · simp [Value.ownBlock] at e
      · simp [Value.ownBlock] at e
        subst e
        rw [hh] at hh2
        injection hh2 with hh2
        injection hh2 with _ ht
        exact absurd ht (by decide)
  refine ⟨⟨h.ge, h.blk.grown hgr (fun e => hgbd (by injection e with e; exact e.symm)), h.cells.setF' hj hf u y (fun cs hcs => Rp.mono (Keep.less a2) (hE cs (Rp.mono (Keep.less a1) hcs))), h.cache.kept hgr (.inr hvk) (fun b e => .inr (.inr (by cases e; rfl)))⟩,
    (Below.refl _ _).grown hgr hbase (fun k e => by cases e; exact h.cells.own_ge rfl), fun b hb hm => ⟨hm, hgr.block b hb (fun e => hm (.inr (.inr (.inl (by simpa [Value.ownBlock] using e.symm)))))⟩⟩

theorem OwR.fresh {α : Type} [Rp α] {w : World} {M : Ms} {base : Nat} {e : TypeId} {v v2 : Value} {l : List α} (h : OwR w (OM M v2) base e v l) (o : Obj) : OwR (w.alloc o) (DM M w.heap.size v2) base e v l := by
  obtain ⟨xs, ho, he⟩ := h
  exact ⟨xs, ho.alloc o, he.mono fun cs x _ => Rp.mono fun b hb hm => ⟨by
    rintro ((h | h | h) | h)
    · exact hm (.inl (.inl h))
    · omega
    · exact hm (.inl (.inr h))
    · exact hm (.inr h), Below.heap_alloc w o b hb⟩⟩
set_option maxHeartbeats 2000000 in
theorem rown_any (v : Value) (d : Dis) (w : World) (M : Ms) (h : Rv w M v d) (hM : MOk w M) (hs : smD d) :
    Calls Try.prog 26 #[v] w fun e w' => ∃ bx vc vk, e = .returned (.pointer (some ⟨bx, 0, none⟩)) ∧ RfR w' M w.heap.size bx vc vk d ∧ Below w.heap.size w w' := by
  obtain ⟨Ac, nc, Ak, nk, rfl⟩ := dis_form h
  have hal := (Below.refl w.heap.size w).alloc (Nat.le_refl _) (.cells #[.slice Ac d.cells.length nc, .slice Ak d.cache.length nk, .int .i64 d.reqs, .int .i64 d.left] 27)
  have H := Lib.hid (h.below hal)
  have hB0 := Lib.hid hal
  have hM' := Lib.hid (hM.below hal.size)
  have hsz := Lib.hid (show w.heap.size < (w.alloc (.cells #[.slice Ac d.cells.length nc, .slice Ak d.cache.length nk, .int .i64 d.reqs, .int .i64 d.left] 27)).heap.size by simp)
  clear h hM hal
  go_enter Try.func26, Try.ntmps26
  go_wp2_with fail
  generalize w.alloc (.cells #[.slice Ac d.cells.length nc, .slice Ak d.cache.length nk, .int .i64 d.reqs, .int .i64 d.left] 27) = w0 at *
  refine (ktwin_own _ d w0 M H.out hM'.out hs).mono ?_
  rintro q w1 ⟨vc, vk, rfl, hc, hk, hB1⟩
  have B1 := Lib.hid (hB0.out.trans (hB1.mono hB0.out.size))
  have Hc := Lib.hid hc
  have Hk := Lib.hid hk
  have hz1 := Lib.hid hB1.size
  clear hc hk hB1
  go_wp2
  go_ret
  have hge := hB0.out.size
  exact ⟨w1.heap.size, vc, vk, rfl, ⟨B1.out.size, heap_alloc_new w1 _, (Hc.out.fresh _).mono_base hge, (Hk.out.fresh _).mono_base hge⟩, B1.out.alloc B1.out.size _⟩

/-- A block besides, that may be written. -/
theorem RfR.boxed {w : World} {M : Ms} {base bd : Nat} {vc vk : Value} {d : Dis} (h : RfR w M base bd vc vk d) (o : Obj) : RfR (w.alloc o) (M.and w.heap.size) base bd vc vk d := by
  have hB := (Below.refl w.heap.size w).alloc (Nat.le_refl _) o
  have go : ∀ {α : Type} [Rp α] {e : TypeId} {v v2 : Value} {l : List α}, OwR w (DM M bd v2) base e v l → OwR (w.alloc o) (DM (M.and w.heap.size) bd v2) base e v l := fun h => by
    obtain ⟨xs, ho, he⟩ := h
    exact ⟨xs, ho.alloc o, he.mono fun cs x _ => Rp.mono fun b hb hm => ⟨by
      rintro (((h | h) | h | h) | h)
      · exact hm (.inl (.inl h))
      · omega
      · exact hm (.inl (.inr (.inl h)))
      · exact hm (.inl (.inr (.inr h)))
      · exact hm (.inr h), Below.heap_alloc w o b hb⟩⟩
  exact ⟨h.ge, h.blk.alloc o, go h.cells, go h.cache⟩
theorem RfR.unbox {w w' : World} {M : Ms} {base bd nb : Nat} {vc vk : Value} {d : Dis} (h : RfR w (M.and nb) base bd vc vk d) (hg : w.grownBy w' (some nb)) (h1 : bd ≠ nb) (h2 : vc.ownBlock ≠ some nb) (h3 : vk.ownBlock ≠ some nb) : RfR w' M base bd vc vk d := by
  have lss : ∀ {v : Value} (b : Nat), DM M bd v b → DM (M.and nb) bd v b := fun b h => by
    rcases h with h | h | h
    · exact .inl (.inl h)
    · exact .inr (.inl h)
    · exact .inr (.inr h)
  exact ⟨h.ge, h.blk.grown hg (by simpa using h1), (h.cells.kept hg (.inr h2) (fun b e => by cases e; exact .inl (.inr rfl))).less lss, (h.cache.kept hg (.inr h3) (fun b e => by cases e; exact .inl (.inr rfl))).less lss⟩
theorem rreq_dead (w : World) (M : Ms) (base bd : Nat) (vc vk : Value) (d : Dis) (h : RfR w M base bd vc vk d) (hl : d.left = 0) :
    Calls Try.prog 47 #[.pointer (some ⟨bd, 0, none⟩)] w fun e w' => e = .returned (.bool false) ∧ w = w' := by
  obtain ⟨c0, f0, l0⟩ := h.blk.all
  rw [hl] at c0
  clear h hl
  go_enter Try.func47, Try.ntmps47
  go_wp2
  go_ret
  exact ⟨rfl, rfl⟩

set_option maxHeartbeats 800000 in
theorem rreq_any (w : World) (M : Ms) (base bd : Nat) (vc vk : Value) (d : Dis) (h : RfR w M base bd vc vk d) (hbase : base ≤ w.heap.size) (hl : d.left ≠ 0) (h1 : 0 ≤ d.reqs) (h2 : d.reqs ≤ 1048576) (h3 : -1 ≤ d.left) (h4 : d.left ≤ 1048576) :
    Calls Try.prog 47 #[.pointer (some ⟨bd, 0, none⟩)] w fun e w' => e = .returned (.bool true) ∧ RStep w M base bd vc vk w' vc vk (reqD d) ∧ w.grownBy w' (some bd) := by
  obtain ⟨c0, f0, l0⟩ := h.blk.all
  have H := Lib.hid h
  have hl' : (d.left == 0) = false := by simpa using hl
  clear h hl
  go_enter Try.func47, Try.ntmps47
  go_wp2
  all_goals go_ret
  all_goals refine ⟨rfl, ?_⟩
  · rw [show reqD d = { d with reqs := 1048576, left := d.left - 1 } by simp only [reqD, Dis.mk.injEq, true_and]; constructor; omega; rw [if_pos (by assumption)]]
    exact ⟨H.out.set23 hbase _ _, grownBy_trans (grownBy_set _ _ _ _) (grownBy_set _ _ _ _)⟩
  · rw [show reqD d = { d with reqs := d.reqs + 1, left := d.left - 1 } by simp only [reqD, Dis.mk.injEq, true_and]; constructor; omega; rw [if_pos (by assumption)]]
    exact ⟨H.out.set23 hbase _ _, grownBy_trans (grownBy_set _ _ _ _) (grownBy_set _ _ _ _)⟩
  · rw [show reqD d = { d with reqs := 1048576, left := d.left } by simp only [reqD, Dis.mk.injEq, true_and]; constructor; omega; rw [if_neg (by omega)]]
    exact ⟨H.out.set2 hbase _, grownBy_set _ _ _ _⟩
  · rw [show reqD d = { d with reqs := d.reqs + 1, left := d.left } by simp only [reqD, Dis.mk.injEq, true_and]; constructor; omega; rw [if_neg (by omega)]]
    exact ⟨H.out.set2 hbase _, grownBy_set _ _ _ _⟩
end Go.Proofs.Ytkdjacmabeeceaa
