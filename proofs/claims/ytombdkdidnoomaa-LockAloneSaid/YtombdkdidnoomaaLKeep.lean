/-
Locks compared and copied; one lock.
-/
import Derived.Test.YtombdkdidnoomaaLRis
namespace Go.Proofs.Ytombdkdidnoomaa
open Go.RowKit
attribute [local go_sem ↓] Go.wp_at_zero Go.wp_at_succ

theorem lk_ext {x y : Lk} (h1 : x.lba = y.lba) (h2 : x.reads = y.reads) (h3 : x.writer = y.writer) : x = y := by cases x; cases y; simp_all

set_option maxHeartbeats 4000000 in
theorem locks_any (v1 v2 : Value) (l1 l2 : List Lk) (w : World) (M1 M2 : Ms) (h1 : SlR w M1 v1 l1) (h2 : SlR w M2 v2 l2) (hl : l1.length ≤ 1000000000) (hb : ∀ x ∈ l1, x.reads.length ≤ 1000000000) :
    Calls Try.prog 11 #[v1, v2] w fun e w' => e = .returned (.bool (decide (l1 = l2))) ∧ Below w.heap.size w w' := by
  obtain ⟨a1, c1, rfl⟩ := h1.form
  obtain ⟨a2, c2, rfl⟩ := h2.form
  by_cases hlen : l1.length = l2.length
  case neg =>
    have hne : ¬ (l1.length : Int) = l2.length := by omega
    have hR := Lib.hid (show decide (l1 = l2) = false by simp only [decide_eq_false_iff_not]; intro e; exact hlen (by rw [e]))
    have hne' : ((l1.length : Int) != l2.length) = true := by simpa using hne
    clear h1 h2 hlen hne
    go_enter Try.func11, Try.ntmps11
    go_wp2
    go_ret
    rw [hR.out]
    exact ⟨rfl, Below.refl _ _⟩
  have H1 := Lib.hid h1
  have H2 := Lib.hid h2
  have hlen' : ((l1.length : Int) != l2.length) = false := by simp [hlen]
  have Hlen := Lib.hid hlen
  clear h1 h2 hlen
  go_enter Try.func11, Try.ntmps11
  go_wp2
  clear hlen'
  go_loopw [5] (fun i wr => ∃ k : Nat, k ≤ l1.length ∧ i = .int .i64 k ∧ Below w.heap.size w wr ∧ Hid (l1.take k = l2.take k)) (fun i _ => l1.length - (intOf i).toNat)
  case atStart => exact ⟨0, Nat.zero_le _, rfl, Below.refl _ _, by simp [Hid]⟩
  case round =>
    obtain ⟨k, hk, rfl, hB, heq⟩ := hrel
    by_cases hlt : k < l1.length
    · have hlt2 : k < l2.length := by rw [← Hlen.out]; exact hlt
      obtain ⟨b1, o1, A1, C1, rfl, -, x1, y1, z1, s1⟩ := lk_at (H1.out.mono (Keep.below hB)) hlt
      obtain ⟨b2, o2, A2, C2, rfl, -, x2, y2, z2, s2⟩ := lk_at (H2.out.mono (Keep.below hB)) hlt2
      have hbk := Lib.hid (hb l1[k] (List.getElem_mem hlt))
      have hdr := below_drew wr
      have Z1 := Lib.hid (s1.mono (Keep.below hdr))
      have Z2 := Lib.hid (s2.mono (Keep.below hdr))
      have hS := Lib.hid (show (wr.drew.cell? ⟨b1, o1 + k * 3, none⟩ = some (.int .i64 l1[k].lba) ∧ wr.drew.cell? ⟨b1, o1 + k * 3 + 1, none⟩ = some (.slice A1 l1[k].reads.length C1) ∧ wr.drew.cell? ⟨b1, o1 + k * 3 + 2, none⟩ = some (.int .i64 l1[k].writer)) ∧ wr.drew.cell? ⟨b2, o2 + k * 3, none⟩ = some (.int .i64 l2[k].lba) ∧ wr.drew.cell? ⟨b2, o2 + k * 3 + 1, none⟩ = some (.slice A2 l2[k].reads.length C2) ∧ wr.drew.cell? ⟨b2, o2 + k * 3 + 2, none⟩ = some (.int .i64 l2[k].writer) from ⟨⟨x1, y1, z1⟩, x2, y2, z2⟩)
      have hBd := Lib.hid hB.drew
      clear x1 y1 z1 x2 y2 z2 s1 s2 hdr hB
      have HE : ∀ (b : Bool), Hid (l1[k] = l2[k] ↔ b = true) → b = false → decide (l1 = l2) = false := fun b h hbf => by
        simp only [decide_eq_false_iff_not]
        intro e
        subst e
        have := h.out.1 rfl
        rw [hbf] at this; cases this
      have HE := Lib.hid HE
      go_wp2_with fail
      refine rp_enter [4, 9, 16, 21, 29, 34] (fun w' => (w'.cell? ⟨b1, o1 + k * 3, none⟩ = some (.int .i64 l1[k].lba) ∧ w'.cell? ⟨b1, o1 + k * 3 + 1, none⟩ = some (.slice A1 l1[k].reads.length C1) ∧ w'.cell? ⟨b1, o1 + k * 3 + 2, none⟩ = some (.int .i64 l1[k].writer)) ∧ w'.cell? ⟨b2, o2 + k * 3, none⟩ = some (.int .i64 l2[k].lba) ∧ w'.cell? ⟨b2, o2 + k * 3 + 1, none⟩ = some (.slice A2 l2[k].reads.length C2) ∧ w'.cell? ⟨b2, o2 + k * 3 + 2, none⟩ = some (.int .i64 l2[k].writer)) (by kernel_rfl) ?_
      generalize wr.drew = wd at *
      by_cases e1 : l1[k].lba = l2[k].lba
      · have q1 : (l1[k].lba != l2[k].lba) = false := by simp [e1]
        by_cases e3 : l1[k].writer = l2[k].writer
        · have q3 : (l1[k].writer != l2[k].writer) = false := by simp [e3]
          have E := Lib.hid (And.intro e1 e3)
          clear e1 e3
          apply rp_pure 0 rfl (by kernel_rfl) (fun _ _ _ h => h) rfl
          · (intro W; go_simp; try rfl)
          · (go_simp; try rfl)
          apply rp_pure 1 rfl (by kernel_rfl) (fun _ _ _ h => h) rfl
          · (intro W; go_simp; try rfl)
          · (go_simp; try rfl)
          apply rp_pure 2 rfl (by kernel_rfl) (fun _ _ _ h => h) rfl
          · (intro W; go_simp; try rfl)
          · (go_simp; try rfl)
          apply rp_pure 3 rfl (by kernel_rfl) (fun _ _ _ h => h) rfl
          · (intro W; go_simp; try rfl)
          · (go_simp; try rfl)
          apply rp_take 4 rfl (by kernel_rfl) (fun _ _ _ h => h) (hS.out) rfl
          · (rintro W ⟨⟨s0, s1, s2⟩, s3, s4, s5⟩; go_simp; try rfl)
          · (go_simp; try rfl)
          apply rp_pure 5 rfl (by kernel_rfl) (fun _ _ _ h => h) rfl
          · (intro W; go_simp; try rfl)
          · (go_simp; try rfl)
          apply rp_pure 6 rfl (by kernel_rfl) (fun _ _ _ h => h) rfl
          · (intro W; go_simp; try rfl)
          · (go_simp; try rfl)
          apply rp_pure 7 rfl (by kernel_rfl) (fun _ _ _ h => h) rfl
          · (intro W; go_simp; try rfl)
          · (go_simp; try rfl)
          apply rp_pure 8 rfl (by kernel_rfl) (fun _ _ _ h => h) rfl
          · (intro W; go_simp; try rfl)
          · (go_simp; try rfl)
          apply rp_take 9 rfl (by kernel_rfl) (fun _ _ _ h => h) (hS.out) rfl
          · (rintro W ⟨⟨s0, s1, s2⟩, s3, s4, s5⟩; go_simp; try rfl)
          · (go_simp; try rfl)
          apply rp_pure 10 rfl (by kernel_rfl) (fun _ _ _ h => h) rfl
          · (intro W; go_simp; try rfl)
          · (go_simp; try rfl)
          apply rp_pure 11 rfl (by kernel_rfl) (fun _ _ _ h => h) rfl
          · (intro W; go_simp; try rfl)
          · (go_simp; try rfl)
          apply rp_pure 12 rfl (by kernel_rfl) (fun _ _ _ h => h) rfl
          · (intro W; go_simp; try rfl)
          · (go_simp; try rfl)
          apply rp_pure 13 rfl (by kernel_rfl) (fun _ _ _ h => h) rfl
          · (intro W; go_simp; try rfl)
          · (go_simp; try rfl)
          apply rp_pure 14 rfl (by kernel_rfl) (fun _ _ _ h => h) rfl
          · (intro W; go_simp; try rfl)
          · (go_simp; try rfl)
          apply rp_pure 15 rfl (by kernel_rfl) (fun _ _ _ h => h) rfl
          · (intro W; go_simp; try rfl)
          · (go_simp; try rfl)
          apply rp_take 16 rfl (by kernel_rfl) (fun _ _ _ h => h) (hS.out) rfl
          · (rintro W ⟨⟨s0, s1, s2⟩, s3, s4, s5⟩; go_simp; try rfl)
          · (go_simp; try rfl)
          apply rp_pure 17 rfl (by kernel_rfl) (fun _ _ _ h => h) rfl
          · (intro W; go_simp; try rfl)
          · (go_simp; try rfl)
          apply rp_pure 18 rfl (by kernel_rfl) (fun _ _ _ h => h) rfl
          · (intro W; go_simp; try rfl)
          · (go_simp; try rfl)
          apply rp_pure 19 rfl (by kernel_rfl) (fun _ _ _ h => h) rfl
          · (intro W; go_simp; try rfl)
          · (go_simp; try rfl)
          apply rp_pure 20 rfl (by kernel_rfl) (fun _ _ _ h => h) rfl
          · (intro W; go_simp; try rfl)
          · (go_simp; try rfl)
          apply rp_take 21 rfl (by kernel_rfl) (fun _ _ _ h => h) (hS.out) rfl
          · (rintro W ⟨⟨s0, s1, s2⟩, s3, s4, s5⟩; go_simp; try rfl)
          · (go_simp; try rfl)
          apply rp_pure 22 rfl (by kernel_rfl) (fun _ _ _ h => h) rfl
          · (intro W; go_simp; try rfl)
          · (go_simp; try rfl)
          apply rp_pure 23 rfl (by kernel_rfl) (fun _ _ _ h => h) rfl
          · (intro W; go_simp; try rfl)
          · (go_simp; try rfl)
          apply rp_pure 24 rfl (by kernel_rfl) (fun _ _ _ h => h) rfl
          · (intro W; go_simp; try rfl)
          · (go_simp; try rfl)
          apply rp_pure 25 rfl (by kernel_rfl) (fun _ _ _ h => h) rfl
          · (intro W; go_simp; try rfl)
          · (go_simp; try rfl)
          apply rp_pure 26 rfl (by kernel_rfl) (fun _ _ _ h => h) rfl
          · (intro W; go_simp; try rfl)
          · (go_simp; try rfl)
          apply rp_pure 27 rfl (by kernel_rfl) (fun _ _ _ h => h) rfl
          · (intro W; go_simp; try rfl)
          · (go_simp; try rfl)
          apply rp_pure 28 rfl (by kernel_rfl) (fun _ _ _ h => h) rfl
          · (intro W; go_simp; try rfl)
          · (go_simp; try rfl)
          apply rp_take 29 rfl (by kernel_rfl) (fun _ _ _ h => h) (hS.out) rfl
          · (rintro W ⟨⟨s0, s1, s2⟩, s3, s4, s5⟩; go_simp; try rfl)
          · (go_simp; try rfl)
          apply rp_pure 30 rfl (by kernel_rfl) (fun _ _ _ h => h) rfl
          · (intro W; go_simp; try rfl)
          · (go_simp; try rfl)
          apply rp_pure 31 rfl (by kernel_rfl) (fun _ _ _ h => h) rfl
          · (intro W; go_simp; try rfl)
          · (go_simp; try rfl)
          apply rp_pure 32 rfl (by kernel_rfl) (fun _ _ _ h => h) rfl
          · (intro W; go_simp; try rfl)
          · (go_simp; try rfl)
          apply rp_pure 33 rfl (by kernel_rfl) (fun _ _ _ h => h) rfl
          · (intro W; go_simp; try rfl)
          · (go_simp; try rfl)
          apply rp_take 34 rfl (by kernel_rfl) (fun _ _ _ h => h) (hS.out) rfl
          · (rintro W ⟨⟨s0, s1, s2⟩, s3, s4, s5⟩; go_simp; try rfl)
          · (go_simp; try rfl)
          refine rp_only 35 (by kernel_rfl) rfl (fun K hK => ?_)
          go_simp
          refine (ints_any _ _ l1[k].reads l2[k].reads _ _ _ Z1.out Z2.out hbk.out).mono ?_
          rintro q w2 ⟨rfl, hB2⟩
          have hS2 := Lib.hid (show (w2.cell? ⟨b1, o1 + k * 3, none⟩ = some (.int .i64 l1[k].lba) ∧ w2.cell? ⟨b1, o1 + k * 3 + 1, none⟩ = some (.slice A1 l1[k].reads.length C1) ∧ w2.cell? ⟨b1, o1 + k * 3 + 2, none⟩ = some (.int .i64 l1[k].writer)) ∧ w2.cell? ⟨b2, o2 + k * 3, none⟩ = some (.int .i64 l2[k].lba) ∧ w2.cell? ⟨b2, o2 + k * 3 + 1, none⟩ = some (.slice A2 l2[k].reads.length C2) ∧ w2.cell? ⟨b2, o2 + k * 3 + 2, none⟩ = some (.int .i64 l2[k].writer) from ⟨⟨below_cell hB2 hS.out.1.1, below_cell hB2 hS.out.1.2.1, below_cell hB2 hS.out.1.2.2⟩, below_cell hB2 hS.out.2.1, below_cell hB2 hS.out.2.2.1, below_cell hB2 hS.out.2.2.2⟩)
          have hBt := Lib.hid (hBd.out.trans (hB2.mono hBd.out.size))
          clear hB2 hS
          by_cases er : l1[k].reads = l2[k].reads
          · rw [decide_eq_true er]
            have hee := lk_ext E.out.1 er E.out.2
            have hee := Lib.hid hee
            clear er
            refine hK _ _ ⟨fun _ _ => hS2.out, ?_⟩; clear hK K
            apply rp_pure 36 rfl (by kernel_rfl) (fun _ _ _ h => h) rfl
            · (intro W; go_simp; try rfl)
            · (go_simp; try rfl)
            apply rp_pure 37 rfl (by kernel_rfl) (fun _ _ _ h => h) rfl
            · (intro W; go_simp; try rfl)
            · (go_simp; try rfl)
            refine rp_done (by kernel_rfl) ?_
            go_wp2
            go_roundw
            case rel => exact ⟨k + 1, by omega, by go_num, hBt.out, Lib.hid (take_ext heq.out hlt hlt2 hee.out)⟩
            case measure => simp [intOf]; omega
          · rw [decide_eq_false er]
            have hR := Lib.hid (HE.out false (Lib.hid ⟨fun e => absurd (by rw [e]) er, fun e => by cases e⟩) rfl)
            clear er
            refine hK _ _ ⟨fun _ _ => hS2.out, ?_⟩; clear hK K
            apply rp_pure 36 rfl (by kernel_rfl) (fun _ _ _ h => h) rfl
            · (intro W; go_simp; try rfl)
            · (go_simp; try rfl)
            apply rp_pure 37 rfl (by kernel_rfl) (fun _ _ _ h => h) rfl
            · (intro W; go_simp; try rfl)
            · (go_simp; try rfl)
            refine rp_done (by kernel_rfl) ?_
            go_wp2
            go_ret
            rw [hR.out]
            exact ⟨rfl, hBt.out⟩
        · have q3 : (l1[k].writer != l2[k].writer) = true := by simpa using e3
          have hR := Lib.hid (HE.out false (Lib.hid ⟨fun e => absurd (by rw [e]) e3, fun e => by cases e⟩) rfl)
          clear e1 e3
          apply rp_pure 0 rfl (by kernel_rfl) (fun _ _ _ h => h) rfl
          · (intro W; go_simp; try rfl)
          · (go_simp; try rfl)
          apply rp_pure 1 rfl (by kernel_rfl) (fun _ _ _ h => h) rfl
          · (intro W; go_simp; try rfl)
          · (go_simp; try rfl)
          apply rp_pure 2 rfl (by kernel_rfl) (fun _ _ _ h => h) rfl
          · (intro W; go_simp; try rfl)
          · (go_simp; try rfl)
          apply rp_pure 3 rfl (by kernel_rfl) (fun _ _ _ h => h) rfl
          · (intro W; go_simp; try rfl)
          · (go_simp; try rfl)
          apply rp_take 4 rfl (by kernel_rfl) (fun _ _ _ h => h) (hS.out) rfl
          · (rintro W ⟨⟨s0, s1, s2⟩, s3, s4, s5⟩; go_simp; try rfl)
          · (go_simp; try rfl)
          apply rp_pure 5 rfl (by kernel_rfl) (fun _ _ _ h => h) rfl
          · (intro W; go_simp; try rfl)
          · (go_simp; try rfl)
          apply rp_pure 6 rfl (by kernel_rfl) (fun _ _ _ h => h) rfl
          · (intro W; go_simp; try rfl)
          · (go_simp; try rfl)
          apply rp_pure 7 rfl (by kernel_rfl) (fun _ _ _ h => h) rfl
          · (intro W; go_simp; try rfl)
          · (go_simp; try rfl)
          apply rp_pure 8 rfl (by kernel_rfl) (fun _ _ _ h => h) rfl
          · (intro W; go_simp; try rfl)
          · (go_simp; try rfl)
          apply rp_take 9 rfl (by kernel_rfl) (fun _ _ _ h => h) (hS.out) rfl
          · (rintro W ⟨⟨s0, s1, s2⟩, s3, s4, s5⟩; go_simp; try rfl)
          · (go_simp; try rfl)
          apply rp_pure 10 rfl (by kernel_rfl) (fun _ _ _ h => h) rfl
          · (intro W; go_simp; try rfl)
          · (go_simp; try rfl)
          apply rp_pure 11 rfl (by kernel_rfl) (fun _ _ _ h => h) rfl
          · (intro W; go_simp; try rfl)
          · (go_simp; try rfl)
          apply rp_pure 12 rfl (by kernel_rfl) (fun _ _ _ h => h) rfl
          · (intro W; go_simp; try rfl)
          · (go_simp; try rfl)
          apply rp_pure 13 rfl (by kernel_rfl) (fun _ _ _ h => h) rfl
          · (intro W; go_simp; try rfl)
          · (go_simp; try rfl)
          apply rp_pure 14 rfl (by kernel_rfl) (fun _ _ _ h => h) rfl
          · (intro W; go_simp; try rfl)
          · (go_simp; try rfl)
          apply rp_pure 15 rfl (by kernel_rfl) (fun _ _ _ h => h) rfl
          · (intro W; go_simp; try rfl)
          · (go_simp; try rfl)
          apply rp_take 16 rfl (by kernel_rfl) (fun _ _ _ h => h) (hS.out) rfl
          · (rintro W ⟨⟨s0, s1, s2⟩, s3, s4, s5⟩; go_simp; try rfl)
          · (go_simp; try rfl)
          apply rp_pure 17 rfl (by kernel_rfl) (fun _ _ _ h => h) rfl
          · (intro W; go_simp; try rfl)
          · (go_simp; try rfl)
          apply rp_pure 18 rfl (by kernel_rfl) (fun _ _ _ h => h) rfl
          · (intro W; go_simp; try rfl)
          · (go_simp; try rfl)
          apply rp_pure 19 rfl (by kernel_rfl) (fun _ _ _ h => h) rfl
          · (intro W; go_simp; try rfl)
          · (go_simp; try rfl)
          apply rp_pure 20 rfl (by kernel_rfl) (fun _ _ _ h => h) rfl
          · (intro W; go_simp; try rfl)
          · (go_simp; try rfl)
          apply rp_take 21 rfl (by kernel_rfl) (fun _ _ _ h => h) (hS.out) rfl
          · (rintro W ⟨⟨s0, s1, s2⟩, s3, s4, s5⟩; go_simp; try rfl)
          · (go_simp; try rfl)
          apply rp_pure 22 rfl (by kernel_rfl) (fun _ _ _ h => h) rfl
          · (intro W; go_simp; try rfl)
          · (go_simp; try rfl)
          apply rp_pure 23 rfl (by kernel_rfl) (fun _ _ _ h => h) rfl
          · (intro W; go_simp; try rfl)
          · (go_simp; try rfl)
          apply rp_pure 24 rfl (by kernel_rfl) (fun _ _ _ h => h) rfl
          · (intro W; go_simp; try rfl)
          · (go_simp; try rfl)
          apply rp_skip 25 rfl (by kernel_rfl) (fun _ _ _ h => h) rfl
          · (go_simp; try rfl)
          apply rp_skip 26 rfl (by kernel_rfl) (fun _ _ _ h => h) rfl
          · (go_simp; try rfl)
          apply rp_skip 27 rfl (by kernel_rfl) (fun _ _ _ h => h) rfl
          · (go_simp; try rfl)
          apply rp_skip 28 rfl (by kernel_rfl) (fun _ _ _ h => h) rfl
          · (go_simp; try rfl)
          apply rp_skip 29 rfl (by kernel_rfl) (fun _ _ _ h => h) rfl
          · (go_simp; try rfl)
          apply rp_skip 30 rfl (by kernel_rfl) (fun _ _ _ h => h) rfl
          · (go_simp; try rfl)
          apply rp_skip 31 rfl (by kernel_rfl) (fun _ _ _ h => h) rfl
          · (go_simp; try rfl)
          apply rp_skip 32 rfl (by kernel_rfl) (fun _ _ _ h => h) rfl
          · (go_simp; try rfl)
          apply rp_skip 33 rfl (by kernel_rfl) (fun _ _ _ h => h) rfl
          · (go_simp; try rfl)
          apply rp_skip 34 rfl (by kernel_rfl) (fun _ _ _ h => h) rfl
          · (go_simp; try rfl)
          apply rp_skip 35 rfl (by kernel_rfl) (fun _ _ _ h => h) rfl
          · (go_simp; try rfl)
          apply rp_skip 36 rfl (by kernel_rfl) (fun _ _ _ h => h) rfl
          · (go_simp; try rfl)
          apply rp_pure 37 rfl (by kernel_rfl) (fun _ _ _ h => h) rfl
          · (intro W; go_simp; try rfl)
          · (go_simp; try rfl)
          refine rp_done (by kernel_rfl) ?_
          go_wp2
          go_ret
          rw [hR.out]
          exact ⟨rfl, hBd.out⟩
      · have q1 : (l1[k].lba != l2[k].lba) = true := by simpa using e1
        have hR := Lib.hid (HE.out false (Lib.hid ⟨fun e => absurd (by rw [e]) e1, fun e => by cases e⟩) rfl)
        clear e1
        apply rp_pure 0 rfl (by kernel_rfl) (fun _ _ _ h => h) rfl
        · (intro W; go_simp; try rfl)
        · (go_simp; try rfl)
        apply rp_pure 1 rfl (by kernel_rfl) (fun _ _ _ h => h) rfl
        · (intro W; go_simp; try rfl)
        · (go_simp; try rfl)
        apply rp_pure 2 rfl (by kernel_rfl) (fun _ _ _ h => h) rfl
        · (intro W; go_simp; try rfl)
        · (go_simp; try rfl)
        apply rp_pure 3 rfl (by kernel_rfl) (fun _ _ _ h => h) rfl
        · (intro W; go_simp; try rfl)
        · (go_simp; try rfl)
        apply rp_take 4 rfl (by kernel_rfl) (fun _ _ _ h => h) (hS.out) rfl
        · (rintro W ⟨⟨s0, s1, s2⟩, s3, s4, s5⟩; go_simp; try rfl)
        · (go_simp; try rfl)
        apply rp_pure 5 rfl (by kernel_rfl) (fun _ _ _ h => h) rfl
        · (intro W; go_simp; try rfl)
        · (go_simp; try rfl)
        apply rp_pure 6 rfl (by kernel_rfl) (fun _ _ _ h => h) rfl
        · (intro W; go_simp; try rfl)
        · (go_simp; try rfl)
        apply rp_pure 7 rfl (by kernel_rfl) (fun _ _ _ h => h) rfl
        · (intro W; go_simp; try rfl)
        · (go_simp; try rfl)
        apply rp_pure 8 rfl (by kernel_rfl) (fun _ _ _ h => h) rfl
        · (intro W; go_simp; try rfl)
        · (go_simp; try rfl)
        apply rp_take 9 rfl (by kernel_rfl) (fun _ _ _ h => h) (hS.out) rfl
        · (rintro W ⟨⟨s0, s1, s2⟩, s3, s4, s5⟩; go_simp; try rfl)
        · (go_simp; try rfl)
        apply rp_pure 10 rfl (by kernel_rfl) (fun _ _ _ h => h) rfl
        · (intro W; go_simp; try rfl)
        · (go_simp; try rfl)
        apply rp_pure 11 rfl (by kernel_rfl) (fun _ _ _ h => h) rfl
        · (intro W; go_simp; try rfl)
        · (go_simp; try rfl)
        apply rp_skip 12 rfl (by kernel_rfl) (fun _ _ _ h => h) rfl
        · (go_simp; try rfl)
        apply rp_skip 13 rfl (by kernel_rfl) (fun _ _ _ h => h) rfl
        · (go_simp; try rfl)
        apply rp_skip 14 rfl (by kernel_rfl) (fun _ _ _ h => h) rfl
        · (go_simp; try rfl)
        apply rp_skip 15 rfl (by kernel_rfl) (fun _ _ _ h => h) rfl
        · (go_simp; try rfl)
        apply rp_skip 16 rfl (by kernel_rfl) (fun _ _ _ h => h) rfl
        · (go_simp; try rfl)
        apply rp_skip 17 rfl (by kernel_rfl) (fun _ _ _ h => h) rfl
        · (go_simp; try rfl)
        apply rp_skip 18 rfl (by kernel_rfl) (fun _ _ _ h => h) rfl
        · (go_simp; try rfl)
        apply rp_skip 19 rfl (by kernel_rfl) (fun _ _ _ h => h) rfl
        · (go_simp; try rfl)
        apply rp_skip 20 rfl (by kernel_rfl) (fun _ _ _ h => h) rfl
        · (go_simp; try rfl)
        apply rp_skip 21 rfl (by kernel_rfl) (fun _ _ _ h => h) rfl
        · (go_simp; try rfl)
        apply rp_skip 22 rfl (by kernel_rfl) (fun _ _ _ h => h) rfl
        · (go_simp; try rfl)
        apply rp_pure 23 rfl (by kernel_rfl) (fun _ _ _ h => h) rfl
        · (intro W; go_simp; try rfl)
        · (go_simp; try rfl)
        apply rp_pure 24 rfl (by kernel_rfl) (fun _ _ _ h => h) rfl
        · (intro W; go_simp; try rfl)
        · (go_simp; try rfl)
        apply rp_skip 25 rfl (by kernel_rfl) (fun _ _ _ h => h) rfl
        · (go_simp; try rfl)
        apply rp_skip 26 rfl (by kernel_rfl) (fun _ _ _ h => h) rfl
        · (go_simp; try rfl)
        apply rp_skip 27 rfl (by kernel_rfl) (fun _ _ _ h => h) rfl
        · (go_simp; try rfl)
        apply rp_skip 28 rfl (by kernel_rfl) (fun _ _ _ h => h) rfl
        · (go_simp; try rfl)
        apply rp_skip 29 rfl (by kernel_rfl) (fun _ _ _ h => h) rfl
        · (go_simp; try rfl)
        apply rp_skip 30 rfl (by kernel_rfl) (fun _ _ _ h => h) rfl
        · (go_simp; try rfl)
        apply rp_skip 31 rfl (by kernel_rfl) (fun _ _ _ h => h) rfl
        · (go_simp; try rfl)
        apply rp_skip 32 rfl (by kernel_rfl) (fun _ _ _ h => h) rfl
        · (go_simp; try rfl)
        apply rp_skip 33 rfl (by kernel_rfl) (fun _ _ _ h => h) rfl
        · (go_simp; try rfl)
        apply rp_skip 34 rfl (by kernel_rfl) (fun _ _ _ h => h) rfl
        · (go_simp; try rfl)
        apply rp_skip 35 rfl (by kernel_rfl) (fun _ _ _ h => h) rfl
        · (go_simp; try rfl)
        apply rp_skip 36 rfl (by kernel_rfl) (fun _ _ _ h => h) rfl
        · (go_simp; try rfl)
        apply rp_pure 37 rfl (by kernel_rfl) (fun _ _ _ h => h) rfl
        · (intro W; go_simp; try rfl)
        · (go_simp; try rfl)
        refine rp_done (by kernel_rfl) ?_
        go_wp2
        go_ret
        rw [hR.out]
        exact ⟨rfl, hBd.out⟩
    · obtain rfl : k = l1.length := by omega
      have hR := Lib.hid (show decide (l1 = l2) = true by
        simp only [decide_eq_true_eq]
        have h := heq.out
        rw [List.take_length] at h
        rw [h, List.take_of_length_le (by rw [Hlen.out]; exact Nat.le_refl _)])
      go_wp2
      go_ret
      rw [hR.out]
      exact ⟨rfl, hB⟩
end Go.Proofs.Ytombdkdidnoomaa
