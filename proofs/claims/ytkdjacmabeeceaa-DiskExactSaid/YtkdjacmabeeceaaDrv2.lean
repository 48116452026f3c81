/-
The contracts of a drive's methods request, done: what a request counts, what a write that is carried out leaves.
-/
import Derived.Test.YtkdjacmabeeceaaDrv
namespace Go.Proofs.Ytkdjacmabeeceaa
open Go.RowKit
attribute [local go_sem ↓] Go.wp_at_zero Go.wp_at_succ

/-- From a drive to what it has become. -/
structure DStep (w : World) (M : Ms) (base bd : Nat) (vc vk : Value) (w' : World) (vc' vk' : Value) (d' : Dis) : Prop where
  drv : DrvR w' M base bd vc' vk' d'
  below : Below base w w'
  keep : Keep w (DA M bd vc vk) w' (DA M bd vc' vk')

theorem DrvR.same {w : World} {M : Ms} {base bd : Nat} {vc vk : Value} {d : Dis} (h : DrvR w M base bd vc vk d) : DStep w M base bd vc vk w vc vk d := ⟨h, Below.refl _ _, Keep.refl _ _⟩
theorem DStep.trans {w w1 w2 : World} {M : Ms} {base bd : Nat} {vc vk vc1 vk1 vc2 vk2 : Value} {d1 d2 : Dis} (h : DStep w M base bd vc vk w1 vc1 vk1 d1) (k : DStep w1 M base bd vc1 vk1 w2 vc2 vk2 d2) : DStep w M base bd vc vk w2 vc2 vk2 d2 :=
  ⟨k.drv, h.below.trans k.below, h.keep.trans k.keep⟩
/-- What does nothing to old memory. -/
theorem DrvR.belowd {w w' : World} {M : Ms} {base bd : Nat} {vc vk : Value} {d : Dis} (h : DrvR w M base bd vc vk d) (hb : Below w.heap.size w w') (hbase : base ≤ w.heap.size) : DStep w M base bd vc vk w' vc vk d :=
  ⟨⟨h.ge, h.blk.below hb, h.cells.below hb, h.cache.below hb⟩, hb.mono hbase, fun b hb' hm => ⟨hm, hb.block b hb'⟩⟩
/-- The drive's own block turned, nothing else. -/
theorem DrvR.head {w w' : World} {M : Ms} {base bd : Nat} {vc vk : Value} {d : Dis} (h : DrvR w M base bd vc vk d) {q l : Int} (hg : w.grownBy w' (some bd)) (hblk : Blk w' bd 74 #[vc, vk, .int .i64 q, .int .i64 l]) (hbase : base ≤ w.heap.size) :
    DStep w M base bd vc vk w' vc vk { d with reqs := q, left := l } :=
  ⟨⟨h.ge, hblk, h.cells.kept hg (.inr (h.cells.ne_ h.blk (by decide))) (fun b e => .inr (.inl (by cases e; rfl))), h.cache.kept hg (.inr (h.cache.ne_ h.blk (by decide))) (fun b e => .inr (.inl (by cases e; rfl)))⟩,
   (Below.refl _ _).grown hg hbase (fun k e => by cases e; exact h.ge), fun b hb hm => ⟨hm, hg.block b hb (fun e => hm (.inr (.inl (by cases e; rfl))))⟩⟩
theorem grownBy_set (w : World) (g i : Nat) (u : Value) : w.grownBy (w.setCell ⟨g, i, none⟩ u) (some g) :=
  ⟨rfl, rfl, rfl, by simp, fun k _ hne => Below.heap_setCell _ _ _ _ (fun e => hne (by rw [e]))⟩
theorem grownBy_trans {a b c : World} {r : Option Nat} (h : a.grownBy b r) (k : b.grownBy c r) : a.grownBy c r :=
  ⟨k.os.trans h.os, k.tape.trans h.tape, k.output.trans h.output, Nat.le_trans h.size k.size, fun i hi hne => (k.block i (Nat.lt_of_lt_of_le hi h.size) hne).trans (h.block i hi hne)⟩

theorem DrvR.set23 {w : World} {M : Ms} {base bd : Nat} {vc vk : Value} {d : Dis} (h : DrvR w M base bd vc vk d) (hbase : base ≤ w.heap.size) (q l : Int) :
    DStep w M base bd vc vk ((w.setCell ⟨bd, 2, none⟩ (.int .i64 q)).setCell ⟨bd, 3, none⟩ (.int .i64 l)) vc vk { d with reqs := q, left := l } :=
  h.head (grownBy_trans (grownBy_set _ _ _ _) (grownBy_set _ _ _ _)) ((h.blk.set_ 2 (.int .i64 q)).set_ 3 (.int .i64 l)) hbase
theorem DrvR.set2 {w : World} {M : Ms} {base bd : Nat} {vc vk : Value} {d : Dis} (h : DrvR w M base bd vc vk d) (hbase : base ≤ w.heap.size) (q : Int) :
    DStep w M base bd vc vk (w.setCell ⟨bd, 2, none⟩ (.int .i64 q)) vc vk { d with reqs := q, left := d.left } :=
  h.head (grownBy_set _ _ _ _) (h.blk.set_ 2 (.int .i64 q)) hbase
def reqD (d : Dis) : Dis := { d with reqs := min (d.reqs + 1) 1048576, left := if 0 < d.left then d.left - 1 else d.left }

theorem request_dead (w : World) (M : Ms) (base bd : Nat) (vc vk : Value) (d : Dis) (h : DrvR w M base bd vc vk d) (hl : d.left = 0) :
    Calls Try.prog 52 #[.pointer (some ⟨bd, 0, none⟩)] w fun e w' => e = .returned (.bool false) ∧ w = w' := by
  obtain ⟨c0, f0, l0⟩ := h.blk.all
  rw [hl] at c0
  clear h hl
  go_enter Try.func52, Try.ntmps52
  go_wp2
  go_ret
  exact ⟨rfl, rfl⟩

set_option maxHeartbeats 800000 in
theorem request_any (w : World) (M : Ms) (base bd : Nat) (vc vk : Value) (d : Dis) (h : DrvR w M base bd vc vk d) (hbase : base ≤ w.heap.size) (hl : d.left ≠ 0) (h1 : 0 ≤ d.reqs) (h2 : d.reqs ≤ 1048576) (h3 : -1 ≤ d.left) (h4 : d.left ≤ 1048576) :
    Calls Try.prog 52 #[.pointer (some ⟨bd, 0, none⟩)] w fun e w' => e = .returned (.bool true) ∧ DStep w M base bd vc vk w' vc vk (reqD d) ∧ w.grownBy w' (some bd) := by
  obtain ⟨c0, f0, l0⟩ := h.blk.all
  have H := Lib.hid h
  have hl' : (d.left == 0) = false := by simpa using hl
  clear h hl
  go_enter Try.func52, Try.ntmps52
  go_wp2
  all_goals go_ret
  all_goals refine ⟨rfl, ?_⟩
  · rw [show reqD d = { d with reqs := 1048576, left := d.left - 1 } by simp only [reqD, Dis.mk.injEq, true_and]; constructor; omega; rw [if_pos (by assumption)]]
    exact ⟨H.out.set23 hbase _ _, grownBy_trans (grownBy_set _ _ _ _) (grownBy_set _ _ _ _)⟩
  · rw [show reqD d = { d with reqs := d.reqs + 1, left := d.left - 1 } by simp only [reqD, Dis.mk.injEq, true_and]; constructor; omega; rw [if_pos (by assumption)]]
    exact ⟨H.out.set23 hbase _ _, grownBy_trans (grownBy_set _ _ _ _) (grownBy_set _ _ _ _)⟩
  · rw [show reqD d = { d with reqs := 1048576, left := d.left } by simp only [reqD, Dis.mk.injEq, true_and]; constructor; omega; rw [if_neg (by omega)]]
    exact ⟨H.out.set2 hbase _, grownBy_set _ _ _ _⟩
  · rw [show reqD d = { d with reqs := d.reqs + 1, left := d.left } by simp only [reqD, Dis.mk.injEq, true_and]; constructor; omega; rw [if_neg (by omega)]]
    exact ⟨H.out.set2 hbase _, grownBy_set _ _ _ _⟩
end Go.Proofs.Ytkdjacmabeeceaa
