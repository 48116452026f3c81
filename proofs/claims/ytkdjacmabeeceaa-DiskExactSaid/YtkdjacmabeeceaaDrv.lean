/-
The contract of disk.Own: a drive in memory of its own.
-/
import Derived.Test.YtkdjacmabeeceaaChk4
import Derived.Test.YtkdjacmabeeceaaRgn
namespace Go.Proofs.Ytkdjacmabeeceaa
open Go.RowKit
attribute [local go_sem ↓] Go.wp_at_zero Go.wp_at_succ

/-- What a drive's own memory is, besides one of its rows. -/
def DM (M : Ms) (bd : Nat) (v : Value) : Ms := fun b => M b ∨ b = bd ∨ v.ownBlock = some b
/-- All of it. -/
def DA (M : Ms) (bd : Nat) (vc vk : Value) : Ms := fun b => M b ∨ b = bd ∨ vc.ownBlock = some b ∨ vk.ownBlock = some b
structure DrvR (w : World) (M : Ms) (base bd : Nat) (vc vk : Value) (d : Dis) : Prop where
  ge : base ≤ bd
  blk : Blk w bd 74 #[vc, vk, .int .i64 d.reqs, .int .i64 d.left]
  cells : OwR w (DM M bd vk) base 47 vc d.cells
  cache : OwR w (DM M bd vc) base 78 vk d.cache

set_option maxHeartbeats 2000000 in
theorem own_any (v : Value) (d : Dis) (w : World) (M : Ms) (h : Rv w M v d) (hl : d.cells.length ≤ 1000000000) (hkl : d.cache.length ≤ 1000000000) :
    Calls Try.prog 33 #[v] w fun e w' => ∃ bd vc vk, e = .returned (.pointer (some ⟨bd, 0, none⟩)) ∧ DrvR w' M w.heap.size bd vc vk d ∧ Below w.heap.size w w' := by
  obtain ⟨c, k, rfl, hc, hk⟩ := rv_dis.1 h
  obtain ⟨ac, cc, rfl⟩ := hc.form
  obtain ⟨ak, ck, rfl⟩ := hk.form
  clear h
  have Hc := Lib.hid hc
  have Hk := Lib.hid hk
  clear hc hk
  have hB := Lib.hid ((Below.refl w.heap.size w).alloc (Nat.le_refl _) (.cells #[.slice ac d.cells.length cc, .slice ak d.cache.length ck, .int .i64 d.reqs, .int .i64 d.left] 27))
  go_enter Try.func33, Try.ntmps33
  go_wp2_with fail
  have hB' := Lib.hid hB.out.drew
  have hblk := Lib.hid (Blk.new w 27 #[.slice ac d.cells.length cc, .slice ak d.cache.length ck, .int .i64 d.reqs, .int .i64 d.left]).drew
  generalize hw0 : (w.alloc (.cells #[.slice ac d.cells.length cc, .slice ak d.cache.length ck, .int .i64 d.reqs, .int .i64 d.left] 27)).drew = w0 at hB' hblk
  refine rg_enter [0, 1, 3, 4] (fun w' => ∀ i, w'.cell? ⟨w.heap.size, i, none⟩ = #[Value.slice ac d.cells.length cc, .slice ak d.cache.length ck, .int .i64 d.reqs, .int .i64 d.left][i]?) (by kernel_rfl) ?_
  rw [hw0]
  clear hw0 hB
  apply rg_take 0 rfl (by kernel_rfl) (fun _ _ _ h => h) (hblk.out.cell) rfl
  · (rintro W hW; go_simp; try rfl)
  · (go_simp; try rfl)
  apply rg_take 1 rfl (by kernel_rfl) (fun _ _ _ h => h) (hblk.out.cell) rfl
  · (rintro W hW; go_simp; try rfl)
  · (go_simp; try rfl)
  apply rg_take 3 rfl (by kernel_rfl) (fun _ _ _ h => h) (hblk.out.cell) rfl
  · (rintro W hW; go_simp; try rfl)
  · (go_simp; try rfl)
  apply rg_take 4 rfl (by kernel_rfl) (fun _ _ _ h => h) (hblk.out.cell) rfl
  · (rintro W hW; go_simp; try rfl)
  · (go_simp; try rfl)
  refine rg_only 2 (by kernel_rfl) rfl (fun K hK => ?_)
  go_simp
  refine (cclone_any _ d.cells _ (M.new w.heap.size) (Hc.out.mono (Keep.fresh hB'.out)) hl).mono ?_
  rintro e w1 ⟨vc, rfl, hc1, hB1⟩
  obtain ⟨A1, n1, rfl⟩ := hc1.form
  have hblk1 := Lib.hid (hblk.out.below hB1)
  refine hK _ _ ⟨fun _ => hblk1.out.cell, ?_⟩; clear hK K
  apply rg_pure 6 rfl (by kernel_rfl) (fun _ _ _ h => h) rfl
  · (intro W; go_simp; try rfl)
  · (go_simp; try rfl)
  have hB1' := Lib.hid (hB'.out.trans (hB1.mono hB'.out.size))
  refine rg_only 5 (by kernel_rfl) rfl (fun K hK => ?_)
  go_simp
  refine (wclone_any _ d.cache _ (M.new w.heap.size) (Hk.out.mono (Keep.fresh hB1'.out)) hkl).mono ?_
  rintro e w2 ⟨vk, rfl, hk2, hB2⟩
  obtain ⟨A2, n2, rfl⟩ := hk2.form
  have hblk2 := Lib.hid (hblk1.out.below hB2)
  obtain ⟨c2, f2, l2⟩ := hblk2.out.all
  have hB2' := Lib.hid (hB1'.out.trans (hB2.mono hB1'.out.size))
  have hc2 := Lib.hid ((hc1.below hB2).mono_base hB'.out.size)
  have hk2' := Lib.hid (hk2.mono_base hB1'.out.size)
  clear hk2 hc1 hB1 hB2
  refine hK _ _ ⟨fun _ => c2, ?_⟩; clear hK K
  refine rg_free 7 (by kernel_rfl) (by kernel_rfl) rfl (fun K hK => ?_)
  go_simp
  refine hK _ _ ?_; clear hK K
  apply rg_pure 8 rfl (by kernel_rfl) (fun _ _ _ h => h) rfl
  · (intro W; go_simp; try rfl)
  · (go_simp; try rfl)
  refine rg_free 9 (by kernel_rfl) (by kernel_rfl) rfl (fun K hK => ?_)
  go_simp
  refine hK _ _ ?_; clear hK K
  refine rg_done (by kernel_rfl) ?_
  have hblk3 := Lib.hid ((hblk2.out.set_ 0 (.slice A1 d.cells.length n1)).set_ 1 (.slice A2 d.cache.length n2))
  have hM : (M.new w.heap.size) w.heap.size := .inr (Nat.le_refl _)
  have hc3 := Lib.hid ((hc2.out.setCell (p := ⟨w.heap.size, 0, none⟩) (hc2.out.ne_ hblk2.out (by decide)) hM (.slice A1 d.cells.length n1)).setCell (p := ⟨w.heap.size, 1, none⟩) (hc2.out.ne_ hblk2.out (by decide)) hM (.slice A2 d.cache.length n2))
  have hk3 := Lib.hid ((hk2'.out.setCell (p := ⟨w.heap.size, 0, none⟩) (hk2'.out.ne_ hblk2.out (by decide)) hM (.slice A1 d.cells.length n1)).setCell (p := ⟨w.heap.size, 1, none⟩) (hk2'.out.ne_ hblk2.out (by decide)) hM (.slice A2 d.cache.length n2))
  have hB3 := Lib.hid ((hB2'.out.setCell (p := ⟨w.heap.size, 0, none⟩) (Nat.le_refl _) (.slice A1 d.cells.length n1)).setCell (p := ⟨w.heap.size, 1, none⟩) (Nat.le_refl _) (.slice A2 d.cache.length n2))
  clear c2 f2 l2 hblk2 hc2 hk2' hB2' hblk hblk1
  generalize (w2.setCell ⟨w.heap.size, 0, none⟩ (.slice A1 d.cells.length n1)).setCell ⟨w.heap.size, 1, none⟩ (.slice A2 d.cache.length n2) = w3 at *
  have c3 := hblk3.out.cell
  simp at c3
  go_wp2
  go_ret
  refine ⟨w3.heap.size, _, _, rfl, ⟨hB3.out.size, heap_alloc_new w3 _, (hc3.out.alloc _).less ?_, (hk3.out.alloc _).less ?_⟩, hB3.out.alloc hB3.out.size _⟩
  · rintro b (h | h | h)
    · exact .inl h
    · exact .inr (by have := hB3.out.size; omega)
    · exact .inr (hk3.out.own_ge h)
  · rintro b (h | h | h)
    · exact .inl h
    · exact .inr (by have := hB3.out.size; omega)
    · exact .inr (hc3.out.own_ge h)
end Go.Proofs.Ytkdjacmabeeceaa
