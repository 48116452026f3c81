/-
The contracts of package casematekeep's comparisons.
-/
import Derived.Test.YtkdjacmabeeceaaNew
namespace Go.Proofs.Ytkdjacmabeeceaa
open Go.RowKit
attribute [local go_sem ↓] Go.wp_at_zero Go.wp_at_succ

theorem take_ext {α : Type} {a b : List α} {k : Nat} (h : a.take k = b.take k) (ha : k < a.length) (hb : k < b.length) (he : a[k] = b[k]) : a.take (k + 1) = b.take (k + 1) := by
  rw [List.take_add_one, List.take_add_one, h, List.getElem?_eq_getElem ha, List.getElem?_eq_getElem hb, he]

set_option maxHeartbeats 1000000 in
theorem bytes_any (v1 v2 : Value) (l1 l2 : List UInt8) (w : World) (M1 M2 : Ms) (h1 : SlR w M1 v1 l1) (h2 : SlR w M2 v2 l2) (hl : l1.length ≤ 1000000000) :
    Calls Try.prog 16 #[v1, v2] w fun e w' => e = .returned (.bool (decide (l1 = l2))) ∧ Below w.heap.size w w' := by
  obtain ⟨a1, c1, rfl⟩ := h1.form
  obtain ⟨a2, c2, rfl⟩ := h2.form
  by_cases hlen : l1.length = l2.length
  case neg =>
    have hne : ¬ (l1.length : Int) = l2.length := by omega
    have hR := Lib.hid (show decide (l1 = l2) = false by simp only [decide_eq_false_iff_not]; intro e; exact hlen (by rw [e]))
    have hne' : ((l1.length : Int) != l2.length) = true := by simpa using hne
    clear h1 h2 hlen hne
    go_enter Try.func16, Try.ntmps16
    go_wp2
    go_ret
    rw [hR.out]
    exact ⟨rfl, Below.refl _ _⟩
  have H1 := Lib.hid h1
  have H2 := Lib.hid h2
  have hlen' : ((l1.length : Int) != l2.length) = false := by simp [hlen]
  have Hlen := Lib.hid hlen
  clear h1 h2 hlen
  go_enter Try.func16, Try.ntmps16
  go_wp2
  clear hlen'
  go_loopw [5] (fun i wr => ∃ k : Nat, k ≤ l1.length ∧ i = .int .i64 k ∧ Below w.heap.size w wr ∧ Hid (l1.take k = l2.take k)) (fun i _ => l1.length - (intOf i).toNat)
  case atStart => exact ⟨0, Nat.zero_le _, rfl, Below.refl _ _, by simp [Hid]⟩
  case round =>
    obtain ⟨k, hk, rfl, hB, heq⟩ := hrel
    by_cases hlt : k < l1.length
    · have hlt2 : k < l2.length := by rw [← Hlen.out]; exact hlt
      obtain ⟨b1, o1, rfl, -, x1⟩ := u8_at (H1.out.mono (Keep.below hB)) hlt
      obtain ⟨b2, o2, rfl, -, x2⟩ := u8_at (H2.out.mono (Keep.below hB)) hlt2
      go_wp2_with fail
      refine rg_enter [0, 1, 2, 3, 4, 5, 6, 7, 8] (fun w' => w'.cell? ⟨b1, o1 + k, none⟩ = some (.int .u8 l1[k].toNat) ∧ w'.cell? ⟨b2, o2 + k, none⟩ = some (.int .u8 l2[k].toNat)) (by kernel_rfl) ?_
      have hS := Lib.hid (show wr.drew.cell? ⟨b1, o1 + k, none⟩ = some (.int .u8 l1[k].toNat) ∧ wr.drew.cell? ⟨b2, o2 + k, none⟩ = some (.int .u8 l2[k].toNat) from ⟨x1, x2⟩)
      clear x1 x2
      apply rg_take 0 rfl (by kernel_rfl) (fun _ _ _ h => h) (hS.out) rfl
      · (rintro W ⟨s0, s1⟩; go_simp; try rfl)
      · (go_simp; try rfl)
      apply rg_take 1 rfl (by kernel_rfl) (fun _ _ _ h => h) (hS.out) rfl
      · (rintro W ⟨s0, s1⟩; go_simp; try rfl)
      · (go_simp; try rfl)
      apply rg_take 2 rfl (by kernel_rfl) (fun _ _ _ h => h) (hS.out) rfl
      · (rintro W ⟨s0, s1⟩; go_simp; try rfl)
      · (go_simp; try rfl)
      apply rg_take 3 rfl (by kernel_rfl) (fun _ _ _ h => h) (hS.out) rfl
      · (rintro W ⟨s0, s1⟩; go_simp; try rfl)
      · (go_simp; try rfl)
      apply rg_take 4 rfl (by kernel_rfl) (fun _ _ _ h => h) (hS.out) rfl
      · (rintro W ⟨s0, s1⟩; go_simp; try rfl)
      · (go_simp; try rfl)
      apply rg_take 5 rfl (by kernel_rfl) (fun _ _ _ h => h) (hS.out) rfl
      · (rintro W ⟨s0, s1⟩; go_simp; try rfl)
      · (go_simp; try rfl)
      apply rg_take 6 rfl (by kernel_rfl) (fun _ _ _ h => h) (hS.out) rfl
      · (rintro W ⟨s0, s1⟩; go_simp; try rfl)
      · (go_simp; try rfl)
      apply rg_take 7 rfl (by kernel_rfl) (fun _ _ _ h => h) (hS.out) rfl
      · (rintro W ⟨s0, s1⟩; go_simp; try rfl)
      · (go_simp; try rfl)
      apply rg_take 8 rfl (by kernel_rfl) (fun _ _ _ h => h) (hS.out) rfl
      · (rintro W ⟨s0, s1⟩; go_simp; try rfl)
      · (go_simp; try rfl)
      refine rg_done (by kernel_rfl) ?_
      go_wp2
      · have hne : ¬ l1[k] = l2[k] := by
          intro e
          have h : ((l1[k].toNat : Int) != l2[k].toNat) = true := ‹_›
          rw [e] at h
          simp at h
        have hR := Lib.hid (show decide (l1 = l2) = false by simp only [decide_eq_false_iff_not]; intro e; subst e; exact hne rfl)
        go_ret
        rw [hR.out]
        exact ⟨rfl, hB.drew⟩
      · have he : l1[k] = l2[k] := by
          have h : ((l1[k].toNat : Int) != l2[k].toNat) = false := ‹_›
          simp only [bne_eq_false_iff_eq] at h
          exact UInt8.toNat_inj.1 (by omega)
        go_roundw
        case rel => exact ⟨k + 1, by omega, by go_num, hB.drew, Lib.hid (take_ext heq.out hlt hlt2 he)⟩
        case measure => simp [intOf]; omega
    · obtain rfl : k = l1.length := by omega
      have hR := Lib.hid (show decide (l1 = l2) = true by
        simp only [decide_eq_true_eq]
        have h := heq.out
        rw [List.take_length] at h
        rw [h, List.take_of_length_le (by rw [Hlen.out]; exact Nat.le_refl _)])
      go_wp2
      go_ret
      rw [hR.out]
      exact ⟨rfl, hB⟩

deriving instance DecidableEq for Wri
deriving instance DecidableEq for Cel
deriving instance DecidableEq for Dis
theorem wri_ext {x y : Wri} (h1 : x.addr = y.addr) (h2 : x.bytes = y.bytes) : x = y := by cases x; cases y; simp_all

set_option maxHeartbeats 2000000 in
theorem writes_any (v1 v2 : Value) (l1 l2 : List Wri) (w : World) (M1 M2 : Ms) (h1 : SlR w M1 v1 l1) (h2 : SlR w M2 v2 l2) (hl : l1.length ≤ 1000000000) (hb : ∀ x ∈ l1, x.bytes.length ≤ 1000000000) :
    Calls Try.prog 23 #[v1, v2] w fun e w' => e = .returned (.bool (decide (l1 = l2))) ∧ Below w.heap.size w w' := by
  obtain ⟨a1, c1, rfl⟩ := h1.form
  obtain ⟨a2, c2, rfl⟩ := h2.form
  by_cases hlen : l1.length = l2.length
  case neg =>
    have hne : ¬ (l1.length : Int) = l2.length := by omega
    have hR := Lib.hid (show decide (l1 = l2) = false by simp only [decide_eq_false_iff_not]; intro e; exact hlen (by rw [e]))
    have hne' : ((l1.length : Int) != l2.length) = true := by simpa using hne
    clear h1 h2 hlen hne
    go_enter Try.func23, Try.ntmps23
    go_wp2
    go_ret
    rw [hR.out]
    exact ⟨rfl, Below.refl _ _⟩
  have H1 := Lib.hid h1
  have H2 := Lib.hid h2
  have hlen' : ((l1.length : Int) != l2.length) = false := by simp [hlen]
  have Hlen := Lib.hid hlen
  clear h1 h2 hlen
  go_enter Try.func23, Try.ntmps23
  go_wp2
  clear hlen'
  go_loopw [5] (fun i wr => ∃ k : Nat, k ≤ l1.length ∧ i = .int .i64 k ∧ Below w.heap.size w wr ∧ Hid (l1.take k = l2.take k)) (fun i _ => l1.length - (intOf i).toNat)
  case atStart => exact ⟨0, Nat.zero_le _, rfl, Below.refl _ _, by simp [Hid]⟩
  case round =>
    obtain ⟨k, hk, rfl, hB, heq⟩ := hrel
    by_cases hlt : k < l1.length
    · have hlt2 : k < l2.length := by rw [← Hlen.out]; exact hlt
      obtain ⟨b1, o1, vb1, rfl, -, x1, y1, z1⟩ := wri_at (H1.out.mono (Keep.below hB)) hlt
      obtain ⟨b2, o2, vb2, rfl, -, x2, y2, z2⟩ := wri_at (H2.out.mono (Keep.below hB)) hlt2
      obtain ⟨ab1, cb1, rfl⟩ := z1.form
      obtain ⟨ab2, cb2, rfl⟩ := z2.form
      have hbk := Lib.hid (hb l1[k] (List.getElem_mem hlt))
      have hpx := Lib.hid (bytes_any _ _ l1[k].bytes l2[k].bytes wr.drew _ _ (z1.mono (Keep.below (below_drew wr))) (z2.mono (Keep.below (below_drew wr))) hbk.out)
      have hS := Lib.hid (show wr.drew.cell? ⟨b1, o1 + k * 2, none⟩ = some (.int .i64 l1[k].addr) ∧ wr.drew.cell? ⟨b1, o1 + k * 2 + 1, none⟩ = some (.slice ab1 l1[k].bytes.length cb1) ∧ wr.drew.cell? ⟨b2, o2 + k * 2, none⟩ = some (.int .i64 l2[k].addr) ∧ wr.drew.cell? ⟨b2, o2 + k * 2 + 1, none⟩ = some (.slice ab2 l2[k].bytes.length cb2) from ⟨x1, y1, x2, y2⟩)
      clear x1 x2 y1 y2 z1 z2
      go_wp2_with fail
      refine rg_enter [0, 1, 2, 3, 4, 5, 6, 7, 8, 9, 10, 11, 12, 13, 14, 15, 16, 17, 18, 19, 20, 21, 23, 24] (fun w' => w'.cell? ⟨b1, o1 + k * 2, none⟩ = some (.int .i64 l1[k].addr) ∧ w'.cell? ⟨b1, o1 + k * 2 + 1, none⟩ = some (.slice ab1 l1[k].bytes.length cb1) ∧ w'.cell? ⟨b2, o2 + k * 2, none⟩ = some (.int .i64 l2[k].addr) ∧ w'.cell? ⟨b2, o2 + k * 2 + 1, none⟩ = some (.slice ab2 l2[k].bytes.length cb2)) (by kernel_rfl) ?_
      apply rg_take 0 rfl (by kernel_rfl) (fun _ _ _ h => h) (hS.out) rfl
      · (rintro W ⟨s0, s1, s2, s3⟩; go_simp; try rfl)
      · (go_simp; try rfl)
      apply rg_take 1 rfl (by kernel_rfl) (fun _ _ _ h => h) (hS.out) rfl
      · (rintro W ⟨s0, s1, s2, s3⟩; go_simp; try rfl)
      · (go_simp; try rfl)
      apply rg_take 2 rfl (by kernel_rfl) (fun _ _ _ h => h) (hS.out) rfl
      · (rintro W ⟨s0, s1, s2, s3⟩; go_simp; try rfl)
      · (go_simp; try rfl)
      apply rg_take 3 rfl (by kernel_rfl) (fun _ _ _ h => h) (hS.out) rfl
      · (rintro W ⟨s0, s1, s2, s3⟩; go_simp; try rfl)
      · (go_simp; try rfl)
      apply rg_take 4 rfl (by kernel_rfl) (fun _ _ _ h => h) (hS.out) rfl
      · (rintro W ⟨s0, s1, s2, s3⟩; go_simp; try rfl)
      · (go_simp; try rfl)
      apply rg_take 5 rfl (by kernel_rfl) (fun _ _ _ h => h) (hS.out) rfl
      · (rintro W ⟨s0, s1, s2, s3⟩; go_simp; try rfl)
      · (go_simp; try rfl)
      apply rg_take 6 rfl (by kernel_rfl) (fun _ _ _ h => h) (hS.out) rfl
      · (rintro W ⟨s0, s1, s2, s3⟩; go_simp; try rfl)
      · (go_simp; try rfl)
      apply rg_take 7 rfl (by kernel_rfl) (fun _ _ _ h => h) (hS.out) rfl
      · (rintro W ⟨s0, s1, s2, s3⟩; go_simp; try rfl)
      · (go_simp; try rfl)
      apply rg_take 8 rfl (by kernel_rfl) (fun _ _ _ h => h) (hS.out) rfl
      · (rintro W ⟨s0, s1, s2, s3⟩; go_simp; try rfl)
      · (go_simp; try rfl)
      apply rg_take 9 rfl (by kernel_rfl) (fun _ _ _ h => h) (hS.out) rfl
      · (rintro W ⟨s0, s1, s2, s3⟩; go_simp; try rfl)
      · (go_simp; try rfl)
      by_cases he : l1[k].addr = l2[k].addr
      · have hab : (l1[k].addr != l2[k].addr) = false := by simp [he]
        have He := Lib.hid he
        clear he
        apply rg_take 10 rfl (by kernel_rfl) (fun _ _ _ h => h) (hS.out) rfl
        · (rintro W hW; go_simp; try rfl)
        · (go_simp; try rfl)
        apply rg_take 11 rfl (by kernel_rfl) (fun _ _ _ h => h) (hS.out) rfl
        · (rintro W ⟨s0, s1, s2, s3⟩; go_simp; try rfl)
        · (go_simp; try rfl)
        apply rg_take 12 rfl (by kernel_rfl) (fun _ _ _ h => h) (hS.out) rfl
        · (rintro W ⟨s0, s1, s2, s3⟩; go_simp; try rfl)
        · (go_simp; try rfl)
        apply rg_take 13 rfl (by kernel_rfl) (fun _ _ _ h => h) (hS.out) rfl
        · (rintro W ⟨s0, s1, s2, s3⟩; go_simp; try rfl)
        · (go_simp; try rfl)
        apply rg_take 14 rfl (by kernel_rfl) (fun _ _ _ h => h) (hS.out) rfl
        · (rintro W ⟨s0, s1, s2, s3⟩; go_simp; try rfl)
        · (go_simp; try rfl)
        apply rg_take 15 rfl (by kernel_rfl) (fun _ _ _ h => h) (hS.out) rfl
        · (rintro W ⟨s0, s1, s2, s3⟩; go_simp; try rfl)
        · (go_simp; try rfl)
        apply rg_take 16 rfl (by kernel_rfl) (fun _ _ _ h => h) (hS.out) rfl
        · (rintro W ⟨s0, s1, s2, s3⟩; go_simp; try rfl)
        · (go_simp; try rfl)
        apply rg_take 17 rfl (by kernel_rfl) (fun _ _ _ h => h) (hS.out) rfl
        · (rintro W ⟨s0, s1, s2, s3⟩; go_simp; try rfl)
        · (go_simp; try rfl)
        apply rg_take 18 rfl (by kernel_rfl) (fun _ _ _ h => h) (hS.out) rfl
        · (rintro W ⟨s0, s1, s2, s3⟩; go_simp; try rfl)
        · (go_simp; try rfl)
        apply rg_take 19 rfl (by kernel_rfl) (fun _ _ _ h => h) (hS.out) rfl
        · (rintro W ⟨s0, s1, s2, s3⟩; go_simp; try rfl)
        · (go_simp; try rfl)
        apply rg_take 20 rfl (by kernel_rfl) (fun _ _ _ h => h) (hS.out) rfl
        · (rintro W ⟨s0, s1, s2, s3⟩; go_simp; try rfl)
        · (go_simp; try rfl)
        apply rg_take 21 rfl (by kernel_rfl) (fun _ _ _ h => h) (hS.out) rfl
        · (rintro W ⟨s0, s1, s2, s3⟩; go_simp; try rfl)
        · (go_simp; try rfl)
        cases hbe : decide (l1[k].bytes = l2[k].bytes)
        · have hR := Lib.hid (show decide (l1 = l2) = false by simp only [decide_eq_false_iff_not] at hbe ⊢; intro e; subst e; exact hbe rfl)
          rw [hbe] at hpx
          clear hbe
          refine rg_only 22 (by kernel_rfl) rfl (fun K hK => ?_)
          go_simp
          refine hpx.out.mono ?_
          rintro e w1 ⟨rfl, hB1⟩
          have hS1 := Lib.hid (show w1.cell? ⟨b1, o1 + k * 2, none⟩ = some (.int .i64 l1[k].addr) ∧ w1.cell? ⟨b1, o1 + k * 2 + 1, none⟩ = some (.slice ab1 l1[k].bytes.length cb1) ∧ w1.cell? ⟨b2, o2 + k * 2, none⟩ = some (.int .i64 l2[k].addr) ∧ w1.cell? ⟨b2, o2 + k * 2 + 1, none⟩ = some (.slice ab2 l2[k].bytes.length cb2) from ⟨below_cell hB1 hS.out.1, below_cell hB1 hS.out.2.1, below_cell hB1 hS.out.2.2.1, below_cell hB1 hS.out.2.2.2⟩)
          refine hK _ _ ⟨fun _ => hS1.out, ?_⟩; clear hK K
          apply rg_take 23 rfl (by kernel_rfl) (fun _ _ _ h => h) (hS1.out) rfl
          · (rintro W ⟨s0, s1, s2, s3⟩; go_simp; try rfl)
          · (go_simp; try rfl)
          apply rg_take 24 rfl (by kernel_rfl) (fun _ _ _ h => h) (hS1.out) rfl
          · (rintro W ⟨s0, s1, s2, s3⟩; go_simp; try rfl)
          · (go_simp; try rfl)
          refine rg_done (by kernel_rfl) ?_
          go_wp2
          go_ret
          rw [hR.out]
          exact ⟨rfl, hB.drew.trans (hB1.mono hB.drew.size)⟩
        · have Hbe := Lib.hid (of_decide_eq_true hbe)
          rw [hbe] at hpx
          clear hbe
          refine rg_only 22 (by kernel_rfl) rfl (fun K hK => ?_)
          go_simp
          refine hpx.out.mono ?_
          rintro e w1 ⟨rfl, hB1⟩
          have hS1 := Lib.hid (show w1.cell? ⟨b1, o1 + k * 2, none⟩ = some (.int .i64 l1[k].addr) ∧ w1.cell? ⟨b1, o1 + k * 2 + 1, none⟩ = some (.slice ab1 l1[k].bytes.length cb1) ∧ w1.cell? ⟨b2, o2 + k * 2, none⟩ = some (.int .i64 l2[k].addr) ∧ w1.cell? ⟨b2, o2 + k * 2 + 1, none⟩ = some (.slice ab2 l2[k].bytes.length cb2) from ⟨below_cell hB1 hS.out.1, below_cell hB1 hS.out.2.1, below_cell hB1 hS.out.2.2.1, below_cell hB1 hS.out.2.2.2⟩)
          refine hK _ _ ⟨fun _ => hS1.out, ?_⟩; clear hK K
          apply rg_take 23 rfl (by kernel_rfl) (fun _ _ _ h => h) (hS1.out) rfl
          · (rintro W ⟨s0, s1, s2, s3⟩; go_simp; try rfl)
          · (go_simp; try rfl)
          apply rg_take 24 rfl (by kernel_rfl) (fun _ _ _ h => h) (hS1.out) rfl
          · (rintro W ⟨s0, s1, s2, s3⟩; go_simp; try rfl)
          · (go_simp; try rfl)
          refine rg_done (by kernel_rfl) ?_
          go_wp2
          go_roundw
          case rel => exact ⟨k + 1, by omega, by go_num, hB.drew.trans (hB1.mono hB.drew.size), Lib.hid (take_ext heq.out hlt hlt2 (wri_ext He.out Hbe.out))⟩
          case measure => simp [intOf]; omega
      · have hab : (l1[k].addr != l2[k].addr) = true := by simp [he]
        have hR := Lib.hid (show decide (l1 = l2) = false by simp only [decide_eq_false_iff_not]; intro e; subst e; exact he rfl)
        clear he
        apply rg_take 10 rfl (by kernel_rfl) (fun _ _ _ h => h) (hS.out) rfl
        · (rintro W hW; go_simp; try rfl)
        · (go_simp; try rfl)
        apply rg_take 11 rfl (by kernel_rfl) (fun _ _ _ h => h) (hS.out) rfl
        · (rintro W ⟨s0, s1, s2, s3⟩; go_simp; try rfl)
        · (go_simp; try rfl)
        apply rg_skip 12 rfl (by kernel_rfl) (fun _ _ _ h => h) (hS.out) rfl
        · (go_simp; try rfl)
        apply rg_skip 13 rfl (by kernel_rfl) (fun _ _ _ h => h) (hS.out) rfl
        · (go_simp; try rfl)
        apply rg_skip 14 rfl (by kernel_rfl) (fun _ _ _ h => h) (hS.out) rfl
        · (go_simp; try rfl)
        apply rg_skip 15 rfl (by kernel_rfl) (fun _ _ _ h => h) (hS.out) rfl
        · (go_simp; try rfl)
        apply rg_skip 16 rfl (by kernel_rfl) (fun _ _ _ h => h) (hS.out) rfl
        · (go_simp; try rfl)
        apply rg_skip 17 rfl (by kernel_rfl) (fun _ _ _ h => h) (hS.out) rfl
        · (go_simp; try rfl)
        apply rg_skip 18 rfl (by kernel_rfl) (fun _ _ _ h => h) (hS.out) rfl
        · (go_simp; try rfl)
        apply rg_skip 19 rfl (by kernel_rfl) (fun _ _ _ h => h) (hS.out) rfl
        · (go_simp; try rfl)
        apply rg_skip 20 rfl (by kernel_rfl) (fun _ _ _ h => h) (hS.out) rfl
        · (go_simp; try rfl)
        apply rg_skip 21 rfl (by kernel_rfl) (fun _ _ _ h => h) (hS.out) rfl
        · (go_simp; try rfl)
        refine rg_only 22 (by kernel_rfl) rfl (fun K hK => ?_)
        go_simp
        refine hK _ _ ⟨fun _ => hS.out, ?_⟩; clear hK K
        apply rg_skip 23 rfl (by kernel_rfl) (fun _ _ _ h => h) (hS.out) rfl
        · (go_simp; try rfl)
        apply rg_take 24 rfl (by kernel_rfl) (fun _ _ _ h => h) (hS.out) rfl
        · (rintro W ⟨s0, s1, s2, s3⟩; go_simp; try rfl)
        · (go_simp; try rfl)
        refine rg_done (by kernel_rfl) ?_
        go_wp2
        go_ret
        rw [hR.out]
        exact ⟨rfl, hB.drew⟩
    · obtain rfl : k = l1.length := by omega
      have hR := Lib.hid (show decide (l1 = l2) = true by
        simp only [decide_eq_true_eq]
        have h := heq.out
        rw [List.take_length] at h
        rw [h, List.take_of_length_le (by rw [Hlen.out]; exact Nat.le_refl _)])
      go_wp2
      go_ret
      rw [hR.out]
      exact ⟨rfl, hB⟩
end Go.Proofs.Ytkdjacmabeeceaa
