/-
The contract of a drive's method done: a write that is carried out.
-/
import Derived.Test.YtkdjacmabeeceaaRead
namespace Go.Proofs.Ytkdjacmabeeceaa
open Go.RowKit
attribute [local go_sem ↓] Go.wp_at_zero Go.wp_at_succ

def doneC (l : List Cel) (j : Nat) (b : List UInt8) : List Cel :=
  match l[j]? with
  | some c => if c.state = 2 then l else l.set j ⟨0, b, c.bytes⟩
  | none => l

/-- The cells' row after a store of a whole cell. -/
theorem DrvR.storeCell {w : World} {M : Ms} {base bd g c : Nat} {vk : Value} {d : Dis} {j : Nat} (h : DrvR w M base bd (.slice (some ⟨g, 0, none⟩) d.cells.length c) vk d) (hj : j < d.cells.length) (hbase : base ≤ w.heap.size) (n : Int) (u1 u2 : Value) (b1 b2 : List UInt8)
    (h1 : SlR w (DA M bd (.slice (some ⟨g, 0, none⟩) d.cells.length c) vk) u1 b1) (h2 : SlR w (DA M bd (.slice (some ⟨g, 0, none⟩) d.cells.length c) vk) u2 b2) :
    DStep w M base bd (.slice (some ⟨g, 0, none⟩) d.cells.length c) vk (((w.setCell ⟨g, j * 3, none⟩ (.int .i64 n)).setCell ⟨g, j * 3 + 1, none⟩ u1).setCell ⟨g, j * 3 + 2, none⟩ u2) (.slice (some ⟨g, 0, none⟩) d.cells.length c) vk { d with cells := d.cells.set j ⟨n, b1, b2⟩ } := by
  have hgr := grownBy_trans (grownBy_trans (grownBy_set w g (j * 3) (.int .i64 n)) (grownBy_set _ g (j * 3 + 1) u1)) (grownBy_set _ g (j * 3 + 2) u2)
  generalize hw' : ((w.setCell ⟨g, j * 3, none⟩ (.int .i64 n)).setCell ⟨g, j * 3 + 1, none⟩ u1).setCell ⟨g, j * 3 + 2, none⟩ u2 = w' at *
  have hgbd : g ≠ bd := fun e => h.cells.ne_ h.blk (by decide) (by simp [Value.ownBlock, e])
  have hk : Keep w (DA M bd (.slice (some ⟨g, 0, none⟩) d.cells.length c) vk) w' (DA M bd (.slice (some ⟨g, 0, none⟩) d.cells.length c) vk) := fun b hb hm => ⟨hm, hgr.block b hb (fun e => hm (.inr (.inr (.inl (by simpa [Value.ownBlock] using e.symm)))))⟩
  have hvk : vk.ownBlock ≠ some g := by
    intro e
    obtain ⟨xs, ho', _⟩ := h.cells
    obtain ⟨ys, ho'', _⟩ := h.cache
    rcases ho'.2 with ⟨h0, _⟩ | ⟨g1, cap, cur, h0, _, hh, _⟩
    · cases h0
    · cases h0
      rcases ho''.2 with ⟨rfl, _⟩ | ⟨g2, cap2, cur2, rfl, _, hh2, _⟩
      · simp [Value.ownBlock] at e
      · simp [Value.ownBlock] at e
        subst e
        rw [hh] at hh2
        injection hh2 with hh2
        injection hh2 with _ ht
        exact absurd ht (by decide)
  refine ⟨⟨h.ge, h.blk.grown hgr (fun e => hgbd (by injection e with e; exact e.symm)), ?_, ?_⟩, (Below.refl _ _).grown hgr hbase (fun k e => by cases e; exact h.cells.own_ge rfl), hk⟩
  · obtain ⟨xs, ho, he⟩ := h.cells
    have hlen := he.length
    have hlt : j * 3 + 2 < xs.length := by
      have : (j + 1) * 3 ≤ d.cells.length * 3 := Nat.mul_le_mul_right _ hj
      simp only [Rp.sz] at hlen
      rw [hlen]; omega
    have s1 := ho.stored (j * 3) (.int .i64 n)
    have s2 := s1.1.stored (j * 3 + 1) u1
    have s3 := s2.1.stored (j * 3 + 2) u2
    have s3 := s3.1
    rw [hw'] at s3
    refine ⟨_, by rw [List.length_set]; exact s3, ?_⟩
    have hel : ∀ cs x, Rp.E w (fun b => DM M bd vk b ∨ (Value.slice (some ⟨g, 0, none⟩) d.cells.length c).ownBlock = some b) cs x → Rp.E w' (fun b => DM M bd vk b ∨ (Value.slice (some ⟨g, 0, none⟩) (d.cells.set j ⟨n, b1, b2⟩).length c).ownBlock = some b) cs x := fun cs (x : Cel) => Rp.mono (fun b hb hm => ⟨fun h' => hm (by simpa [Value.ownBlock] using h'), hgr.block b hb (fun e => hm (.inr (by simpa [Value.ownBlock] using e.symm)))⟩)
    refine Elems.put (cs := [.int .i64 n, u1, u2]) (he.mono fun cs x _ => hel cs x) hj (by simp) (fun i hi => ?_) rfl ⟨u1, u2, rfl, h1.mono ?_, h2.mono ?_⟩ (fun i hi => ?_)
    · simp only [Rp.sz] at hi
      rw [List.getElem?_set_ne (by omega), List.getElem?_set_ne (by omega), List.getElem?_set_ne (by omega)]
    · exact fun b hb hm => ⟨fun h' => hm (by rcases h' with (h' | h' | h') | h'; exact .inl h'; exact .inr (.inl h'); exact .inr (.inr (.inr h')); exact .inr (.inr (.inl (by simpa [Value.ownBlock] using h')))), (hk b hb hm).2⟩
    · exact fun b hb hm => ⟨fun h' => hm (by rcases h' with (h' | h' | h') | h'; exact .inl h'; exact .inr (.inl h'); exact .inr (.inr (.inr h')); exact .inr (.inr (.inl (by simpa [Value.ownBlock] using h')))), (hk b hb hm).2⟩
    · simp only [Rp.sz] at hi ⊢
      rcases (show i = 0 ∨ i = 1 ∨ i = 2 by omega) with rfl | rfl | rfl
      · rw [List.getElem?_set_ne (by omega), List.getElem?_set_ne (by omega), Nat.add_zero, List.getElem?_set_self (by omega)]; rfl
      · rw [List.getElem?_set_ne (by omega), List.getElem?_set_self (by rw [List.length_set]; omega)]; rfl
      · rw [List.getElem?_set_self (by rw [List.length_set, List.length_set]; omega)]; rfl
  · exact h.cache.kept hgr (.inr hvk) (fun b e => .inr (.inr (by simpa [Value.ownBlock] using e)))

theorem DA.of {M : Ms} {bd : Nat} {vc vk : Value} {x : Nat} (h : DA M bd vc vk x) : DM M bd vk x ∨ vc.ownBlock = some x := by
  rcases h with h | h | h | h
  · exact .inl (.inl h)
  · exact .inl (.inr (.inl h))
  · exact .inr h
  · exact .inl (.inr (.inr h))
theorem doneC_2 {l : List Cel} {j : Nat} {b : List UInt8} (hj : j < l.length) (h : l[j].state = 2) : doneC l j b = l := by
  unfold doneC; rw [List.getElem?_eq_getElem hj]; simp [h]
theorem doneC_0 {l : List Cel} {j : Nat} {b : List UInt8} (hj : j < l.length) (h : ¬ l[j].state = 2) : doneC l j b = l.set j ⟨0, b, l[j].bytes⟩ := by
  unfold doneC; rw [List.getElem?_eq_getElem hj]; simp [h]

set_option maxHeartbeats 2000000 in
theorem done_any (w : World) (M : Ms) (base bd : Nat) (vc vk vb : Value) (d : Dis) (j : Nat) (b : List UInt8) (h : DrvR w M base bd vc vk d) (hbase : base ≤ w.heap.size) (hj : j < d.cells.length)
    (hb : SlR w (DA M bd vc vk) vb b) :
    Calls Try.prog 38 #[.pointer (some ⟨bd, 0, none⟩), .agg #[.int .i64 j, vb]] w fun e w' => e = .returned (.tuple #[]) ∧ DStep w M base bd vc vk w' vc vk { d with cells := doneC d.cells j b } := by
  obtain ⟨a, c, rfl⟩ := hb.form
  obtain ⟨g, cc, u1, u2, rfl, hg, -, k0, k1, k2, hs1, -⟩ := celO_at h.cells hj
  obtain ⟨ua, uc, rfl⟩ := hs1.form
  have hB := (Below.refl w.heap.size w).alloc (Nat.le_refl _) (.cells #[.int .i64 j, .slice a b.length c] 78)
  have hB' := hB.drew
  have H1 := Lib.hid (h.belowd hB' hbase)
  have x0 := Lib.hid (Blk.new w 78 #[.int .i64 j, .slice a b.length c]).drew
  have Hb := Lib.hid (hb.mono (Keep.below hB'))
  have hi : (j : Int) < (d.cells.length : Int) := by omega
  have hji : (0 : Int) ≤ (j : Int) := by omega
  go_enter Try.func38, Try.ntmps38
  go_wp2_with fail
  refine rg_enter [0, 1, 2, 3, 4, 5, 6, 7] (fun w' => (∀ i, w'.cell? ⟨bd, i, none⟩ = #[Value.slice (some ⟨g, 0, none⟩) d.cells.length cc, vk, .int .i64 d.reqs, .int .i64 d.left][i]?) ∧ ∀ i, w'.cell? ⟨w.heap.size, i, none⟩ = #[Value.int .i64 j, .slice a b.length c][i]?) (by kernel_rfl) ?_
  have hS := Lib.hid (And.intro H1.out.drv.blk.cell x0.out.cell)
  apply rg_take 0 rfl (by kernel_rfl) (fun _ _ _ h => h) (hS.out) rfl
  · (rintro W ⟨s0, s1⟩; go_simp; try rfl)
  · (go_simp; try rfl)
  apply rg_take 1 rfl (by kernel_rfl) (fun _ _ _ h => h) (hS.out) rfl
  · (rintro W ⟨s0, s1⟩; go_simp; try rfl)
  · (go_simp; try rfl)
  apply rg_take 2 rfl (by kernel_rfl) (fun _ _ _ h => h) (hS.out) rfl
  · (rintro W ⟨s0, s1⟩; go_simp; try rfl)
  · (go_simp; try rfl)
  apply rg_take 3 rfl (by kernel_rfl) (fun _ _ _ h => h) (hS.out) rfl
  · (rintro W ⟨s0, s1⟩; go_simp; try rfl)
  · (go_simp; try rfl)
  apply rg_take 4 rfl (by kernel_rfl) (fun _ _ _ h => h) (hS.out) rfl
  · (rintro W ⟨s0, s1⟩; go_simp; try rfl)
  · (go_simp; try rfl)
  apply rg_take 5 rfl (by kernel_rfl) (fun _ _ _ h => h) (hS.out) rfl
  · (rintro W ⟨s0, s1⟩; go_simp; try rfl)
  · (go_simp; try rfl)
  apply rg_take 6 rfl (by kernel_rfl) (fun _ _ _ h => h) (hS.out) rfl
  · (rintro W ⟨s0, s1⟩; go_simp; try rfl)
  · (go_simp; try rfl)
  apply rg_take 7 rfl (by kernel_rfl) (fun _ _ _ h => h) (hS.out) rfl
  · (rintro W ⟨s0, s1⟩; go_simp; try rfl)
  · (go_simp; try rfl)
  apply rg_pure 8 rfl (by kernel_rfl) (fun _ _ _ h => h) rfl
  · (intro W; go_simp; try rfl)
  · (go_simp; try rfl)
  refine rg_done (by kernel_rfl) ?_
  have hK : (w.alloc (.cells #[Value.int .i64 j, .slice a b.length c] 78)).drew.cell? ⟨g, j * 3, none⟩ = some (.int .i64 d.cells[j].state) := below_cell hB' k0
  have K1 := Lib.hid (below_cell hB' k1)
  have K2 := Lib.hid (below_cell hB' k2)
  have hX0 := Lib.hid x0.out.cell
  clear x0 hS hB hB' k0 k1 k2 hs1 hb
  generalize hw1 : (w.alloc (.cells #[Value.int .i64 j, .slice a b.length c] 78)).drew = w1 at *
  clear hw1
  go_wp2
  · have hst : ¬ d.cells[j].state = 2 := by simpa using ‹(d.cells[j].state != 2) = true›
    clear hK
    have hst := Lib.hid hst
    have hB2 := below_drew w1
    have H2 := Lib.hid (H1.out.trans (H1.out.drv.belowd hB2 (Nat.le_trans hbase H1.out.below.size)))
    have Hb2 := Lib.hid (Hb.out.mono (Keep.below hB2))
    have hS2 := Lib.hid (show w1.drew.cell? ⟨g, j * 3 + 1, none⟩ = some (.slice ua d.cells[j].bytes.length uc) ∧ ∀ i, w1.drew.cell? ⟨w.heap.size, i, none⟩ = #[Value.int .i64 j, .slice a b.length c][i]? from ⟨K1.out, hX0.out⟩)
    refine rg_enter [0, 1, 2, 3, 4, 5, 6] (fun w' => w'.cell? ⟨g, j * 3 + 1, none⟩ = some (.slice ua d.cells[j].bytes.length uc) ∧ ∀ i, w'.cell? ⟨w.heap.size, i, none⟩ = #[Value.int .i64 j, .slice a b.length c][i]?) (by kernel_rfl) ?_
    apply rg_take 0 rfl (by kernel_rfl) (fun _ _ _ h => h) (hS2.out) rfl
    · (rintro W ⟨s0, s1⟩; go_simp; try rfl)
    · (go_simp; try rfl)
    apply rg_take 1 rfl (by kernel_rfl) (fun _ _ _ h => h) (hS2.out) rfl
    · (rintro W ⟨s0, s1⟩; go_simp; try rfl)
    · (go_simp; try rfl)
    apply rg_take 2 rfl (by kernel_rfl) (fun _ _ _ h => h) (hS2.out) rfl
    · (rintro W ⟨s0, s1⟩; go_simp; try rfl)
    · (go_simp; try rfl)
    apply rg_take 3 rfl (by kernel_rfl) (fun _ _ _ h => h) (hS2.out) rfl
    · (rintro W ⟨s0, s1⟩; go_simp; try rfl)
    · (go_simp; try rfl)
    apply rg_take 4 rfl (by kernel_rfl) (fun _ _ _ h => h) (hS2.out) rfl
    · (rintro W ⟨s0, s1⟩; go_simp; try rfl)
    · (go_simp; try rfl)
    apply rg_take 5 rfl (by kernel_rfl) (fun _ _ _ h => h) (hS2.out) rfl
    · (rintro W ⟨s0, s1⟩; go_simp; try rfl)
    · (go_simp; try rfl)
    apply rg_take 6 rfl (by kernel_rfl) (fun _ _ _ h => h) (hS2.out) rfl
    · (rintro W ⟨s0, s1⟩; go_simp; try rfl)
    · (go_simp; try rfl)
    refine rg_only 7 (by kernel_rfl) rfl (fun K hK => ?_)
    go_simp
    refine hK _ _ ⟨fun _ => hS2.out, ?_⟩; clear hK K
    apply rg_pure 8 rfl (by kernel_rfl) (fun _ _ _ h => h) rfl
    · (intro W; go_simp; try rfl)
    · (go_simp; try rfl)
    obtain ⟨g', cc', v1', v2', hvv, hg', hfr, e0, e1, e2, r1, r2⟩ := celO_at H2.out.drv.cells hj
    simp only [Value.slice.injEq, Option.some.injEq, Addr.mk.injEq, true_and, and_true] at hvv
    obtain ⟨rfl, rfl⟩ := hvv
    obtain rfl : v1' = .slice ua d.cells[j].bytes.length uc := by have := e1.symm.trans (below_cell hB2 K1.out); injection this
    have e0' : w1.cell? ⟨g, j * 3, none⟩ = some (.int .i64 d.cells[j].state) := e0
    have e1' : w1.cell? ⟨g, j * 3 + 1, none⟩ = some (.slice ua d.cells[j].bytes.length uc) := e1
    have e2' : w1.cell? ⟨g, j * 3 + 2, none⟩ = some v2' := e2
    have hfr' : ∀ i, w1.frozen? ⟨g, i, none⟩ = false := hfr
    clear e0 e1 e2 hfr
    refine rg_free 9 (by kernel_rfl) (by kernel_rfl) rfl (fun K hK => ?_)
    go_simp
    refine hK _ _ ?_; clear hK K
    refine rg_done (by kernel_rfl) ?_
    go_end0
    refine ⟨rfl, ?_⟩
    rw [doneC_0 hj hst.out]
    exact H2.out.trans (H2.out.drv.storeCell hj (Nat.le_trans hbase H2.out.below.size) 0 _ _ b d.cells[j].bytes Hb2.out (r1.mono (Keep.less (fun x hx => DA.of hx))))
  · have hst : d.cells[j].state = 2 := by simpa using ‹(d.cells[j].state != 2) = false›
    go_end0
    refine ⟨rfl, ?_⟩
    rw [doneC_2 hj hst]
    exact H1.out
end Go.Proofs.Ytkdjacmabeeceaa
