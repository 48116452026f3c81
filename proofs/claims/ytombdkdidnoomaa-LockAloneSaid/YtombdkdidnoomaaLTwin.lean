/-
The contract of TwinLocks.
-/
import Derived.Test.YtombdkdidnoomaaLKeep
namespace Go.Proofs.Ytombdkdidnoomaa
open Go.RowKit
attribute [local go_sem ↓] Go.wp_at_zero Go.wp_at_succ

theorem MOk.own {α : Type} [Rp α] {w : World} {M : Ms} {base : Nat} {e : TypeId} {v : Value} {l : List α} (hM : MOk w M) (hO : OwR w M base e v l) : MOk w (fun b => M b ∨ v.ownBlock = some b) := fun b h => h.elim (hM b) hO.own_lt

set_option maxHeartbeats 4000000 in
theorem twinL_any (v : Value) (l : List Lk) (w : World) (Mi M : Ms) (h : SlR w Mi v l) (hM : MOk w M) (hl : l.length ≤ 1000000000) (hb : ∀ x ∈ l, x.reads.length ≤ 1000000000) :
    Calls Try.prog 7 #[v] w fun e w' => ∃ r, e = .returned r ∧ OwR w' M w.heap.size 39 r l ∧ Below w.heap.size w w' := by
  obtain ⟨a, c, rfl⟩ := h.form
  have H := Lib.hid h
  have hM' := Lib.hid hM
  clear h hM
  go_enter Try.func7, Try.ntmps7
  go_wp2
  go_loopw [3, 4] (fun o i wr => ∃ k : Nat, k ≤ l.length ∧ i = .int .i64 k ∧ Below w.heap.size w wr ∧ Hid (OwR wr M w.heap.size 39 o (l.take k))) (fun _ i _ => l.length - (intOf i).toNat)
  case atStart => exact ⟨0, Nat.zero_le _, rfl, Below.refl _ _, Lib.hid (OwR.nil _ _ _ _)⟩
  case round =>
    obtain ⟨k, hk, rfl, hB, hO⟩ := hrel
    have HB := Lib.hid hB
    by_cases hlt : k < l.length
    · obtain ⟨b1, o1, A1, C1, rfl, -, x1, y1, z1, s1⟩ := lk_at (H.out.mono (Keep.below hB)) hlt
      have hb1 := Lib.hid (show b1 < w.heap.size by
        obtain ⟨b', o', A', C', e', -, x', -, -, -⟩ := lk_at H.out hlt
        simp only [Option.some.injEq, Addr.mk.injEq, and_true] at e'
        obtain ⟨rfl, rfl⟩ := e'
        exact World.block_lt_of_cell? w _ x')
      have hdr := below_drew wr
      have Z1 := Lib.hid (s1.mono (Keep.below hdr))
      have O1 := Lib.hid (hO.out.below hdr)
      have B1 := Lib.hid (HB.out.trans (hdr.mono HB.out.size))
      have hok := Lib.hid ((hM'.out.below B1.out.size).own O1.out)
      have hbk := Lib.hid (hb l[k] (List.getElem_mem hlt))
      have hS := Lib.hid (show wr.drew.cell? ⟨b1, o1 + k * 3, none⟩ = some (.int .i64 l[k].lba) ∧ wr.drew.cell? ⟨b1, o1 + k * 3 + 1, none⟩ = some (.slice A1 l[k].reads.length C1) ∧ wr.drew.cell? ⟨b1, o1 + k * 3 + 2, none⟩ = some (.int .i64 l[k].writer) from ⟨x1, y1, z1⟩)
      clear x1 y1 z1 s1 hdr hB hO HB
      go_wp2_with fail
      refine rp_enter [5, 10, 16] (fun w' => w'.cell? ⟨b1, o1 + k * 3, none⟩ = some (.int .i64 l[k].lba) ∧ w'.cell? ⟨b1, o1 + k * 3 + 1, none⟩ = some (.slice A1 l[k].reads.length C1) ∧ w'.cell? ⟨b1, o1 + k * 3 + 2, none⟩ = some (.int .i64 l[k].writer)) (by kernel_rfl) ?_
      generalize wr.drew = wd at *
      apply rp_pure 0 rfl (by kernel_rfl) (fun _ _ _ h => h) rfl
      · (intro W; go_simp; try rfl)
      · (go_simp; try rfl)
      apply rp_pure 1 rfl (by kernel_rfl) (fun _ _ _ h => h) rfl
      · (intro W; go_simp; try rfl)
      · (go_simp; try rfl)
      apply rp_pure 2 rfl (by kernel_rfl) (fun _ _ _ h => h) rfl
      · (intro W; go_simp; try rfl)
      · (go_simp; try rfl)
      apply rp_pure 3 rfl (by kernel_rfl) (fun _ _ _ h => h) rfl
      · (intro W; go_simp; try rfl)
      · (go_simp; try rfl)
      apply rp_pure 4 rfl (by kernel_rfl) (fun _ _ _ h => h) rfl
      · (intro W; go_simp; try rfl)
      · (go_simp; try rfl)
      apply rp_take 5 rfl (by kernel_rfl) (fun _ _ _ h => h) (hS.out) rfl
      · (rintro W ⟨s0, s1, s2⟩; go_simp; try rfl)
      · (go_simp; try rfl)
      apply rp_pure 6 rfl (by kernel_rfl) (fun _ _ _ h => h) rfl
      · (intro W; go_simp; try rfl)
      · (go_simp; try rfl)
      apply rp_pure 7 rfl (by kernel_rfl) (fun _ _ _ h => h) rfl
      · (intro W; go_simp; try rfl)
      · (go_simp; try rfl)
      apply rp_pure 8 rfl (by kernel_rfl) (fun _ _ _ h => h) rfl
      · (intro W; go_simp; try rfl)
      · (go_simp; try rfl)
      apply rp_pure 9 rfl (by kernel_rfl) (fun _ _ _ h => h) rfl
      · (intro W; go_simp; try rfl)
      · (go_simp; try rfl)
      apply rp_take 10 rfl (by kernel_rfl) (fun _ _ _ h => h) (hS.out) rfl
      · (rintro W ⟨s0, s1, s2⟩; go_simp; try rfl)
      · (go_simp; try rfl)
      apply rp_pure 12 rfl (by kernel_rfl) (fun _ _ _ h => h) rfl
      · (intro W; go_simp; try rfl)
      · (go_simp; try rfl)
      apply rp_pure 13 rfl (by kernel_rfl) (fun _ _ _ h => h) rfl
      · (intro W; go_simp; try rfl)
      · (go_simp; try rfl)
      apply rp_pure 14 rfl (by kernel_rfl) (fun _ _ _ h => h) rfl
      · (intro W; go_simp; try rfl)
      · (go_simp; try rfl)
      apply rp_pure 15 rfl (by kernel_rfl) (fun _ _ _ h => h) rfl
      · (intro W; go_simp; try rfl)
      · (go_simp; try rfl)
      apply rp_take 16 rfl (by kernel_rfl) (fun _ _ _ h => h) (hS.out) rfl
      · (rintro W ⟨s0, s1, s2⟩; go_simp; try rfl)
      · (go_simp; try rfl)
      refine rp_only 11 (by kernel_rfl) rfl (fun K hK => ?_)
      go_simp
      refine (twinI_any _ l[k].reads wd _ _ Z1.out hok.out hbk.out).mono ?_
      rintro q w2 ⟨r2, rfl, hr2, hB2⟩
      obtain ⟨A2, C2, rfl⟩ := hr2.form
      have V2 := Lib.hid hr2
      have O2 := Lib.hid (O1.out.below hB2)
      have hok2 := Lib.hid (hok.out.below hB2.size)
      have HB2 := Lib.hid (B1.out.trans (hB2.mono B1.out.size))
      have hS2 := Lib.hid (show w2.cell? ⟨b1, o1 + k * 3, none⟩ = some (.int .i64 l[k].lba) ∧ w2.cell? ⟨b1, o1 + k * 3 + 1, none⟩ = some (.slice A1 l[k].reads.length C1) ∧ w2.cell? ⟨b1, o1 + k * 3 + 2, none⟩ = some (.int .i64 l[k].writer) from ⟨below_cell hB2 hS.out.1, below_cell hB2 hS.out.2.1, below_cell hB2 hS.out.2.2⟩)
      clear hr2 hB2 hS O1 B1 hok Z1
      refine hK _ _ ⟨fun _ _ => hS2.out, ?_⟩; clear hK K
      apply rp_pure 17 rfl (by kernel_rfl) (fun _ _ _ h => h) rfl
      · (intro W; go_simp; try rfl)
      · (go_simp; try rfl)
      refine rp_only 18 (by kernel_rfl) rfl (fun K hK => ?_)
      go_simp
      have hB3 := (Below.refl w2.heap.size w2).alloc (Nat.le_refl _) (.cells #[.int .i64 l[k].lba, .slice A2 l[k].reads.length C2, .int .i64 l[k].writer] 39)
      have hblk := Blk.new w2 39 #[.int .i64 l[k].lba, .slice A2 l[k].reads.length C2, .int .i64 l[k].writer]
      have V3 := Lib.hid (V2.out.mono (Keep.below hB3))
      have O3 := Lib.hid (O2.out.below hB3)
      have HB3 := Lib.hid (HB2.out.trans (hB3.mono HB2.out.size))
      have hlk : (l.take k).length + 1 ≤ 1000000000 := by rw [List.length_take]; omega
      have hS3 := Lib.hid (show SlR (w2.alloc (.cells #[.int .i64 l[k].lba, .slice A2 l[k].reads.length C2, .int .i64 l[k].writer] 39)) (fun b => M b ∨ u3.ownBlock = some b) (.slice (some ⟨w2.heap.size, 0, none⟩) 1 1) [l[k]] from
        SlR.one hblk ⟨_, rfl, V3.out⟩ (fun h' => by have := hok2.out _ h'; omega))
      have hS4 := Lib.hid (And.intro (below_cell hB3 hS2.out.1) (And.intro (below_cell hB3 hS2.out.2.1) (below_cell hB3 hS2.out.2.2)))
      clear hB3 hblk
      refine hK _ _ ⟨fun _ _ => hS4.out, ?_⟩; clear hK K
      refine rp_only 19 (by kernel_rfl) rfl (fun K hK => ?_)
      refine step_append_R (α := Lk) (M := M) (base := w.heap.size) (l := l.take k) (m := [l[k]]) rfl (by rfl) tyL (by rfl) O3.out (by rfl) hS3.out (by simpa using hlk) HB3.out.size ?_
      intro v4 w4 ho4 hg4 hat4
      have hE : l.take k ++ [l[k]] = l.take (k + 1) := by rw [List.take_add_one, List.getElem?_eq_getElem hlt]; rfl
      rw [hE] at ho4
      have hB4 := Lib.hid (HB3.out.grown hg4 HB3.out.size (fun b e => O3.out.own_ge e))
      have O4 := Lib.hid ho4
      have hne : some b1 ≠ u3.ownBlock := fun e => by have := O3.out.own_ge e.symm; have := hb1.out; omega
      have hS5 := Lib.hid (show w4.cell? ⟨b1, o1 + k * 3, none⟩ = some (.int .i64 l[k].lba) ∧ w4.cell? ⟨b1, o1 + k * 3 + 1, none⟩ = some (.slice A1 l[k].reads.length C1) ∧ w4.cell? ⟨b1, o1 + k * 3 + 2, none⟩ = some (.int .i64 l[k].writer) from ⟨hg4.cell hS4.out.1 hne, hg4.cell hS4.out.2.1 hne, hg4.cell hS4.out.2.2 hne⟩)
      clear hg4 hat4 ho4 hne
      refine hK _ _ ⟨fun _ _ => hS5.out, ?_⟩; clear hK K
      apply rp_pure 20 rfl (by kernel_rfl) (fun _ _ _ h => h) rfl
      · (intro W; go_simp; try rfl)
      · (go_simp; try rfl)
      refine rp_done (by kernel_rfl) ?_
      go_wp2
      go_roundw
      case rel => exact ⟨k + 1, by omega, by go_num, hB4.out, O4⟩
      case measure => simp [intOf]; omega
    · obtain rfl : k = l.length := by omega
      rw [List.take_length] at hO
      go_wp2
      go_ret
      exact ⟨_, rfl, hO.out, HB.out⟩
end Go.Proofs.Ytombdkdidnoomaa
