/-
Locks as plain data; copies and comparisons of integers.
-/
import Derived.Test.YtombdkdidnoomaaRgn3
import Derived.Test.YtombdkdidnoomaaProg
namespace Go.Proofs.Ytombdkdidnoomaa
open Go.RowKit
attribute [local go_sem ↓] Go.wp_at_zero Go.wp_at_succ

structure Lk where
  lba : Int
  reads : List Int
  writer : Int
deriving DecidableEq
instance : Rp Lk where
  sz := 3
  agg := true
  pos := by omega
  E := fun w M cs x => ∃ r, cs = [.int .i64 x.lba, r, .int .i64 x.writer] ∧ SlR w M r x.reads
  len := fun h => by obtain ⟨b, rfl, _⟩ := h; rfl
  one := fun h u hu => by
    obtain ⟨b, rfl, a, c, xs, rfl, _⟩ := h
    simp at hu; rcases hu with rfl | rfl | rfl <;> rfl
  mono := fun k h => by obtain ⟨b, rfl, h1⟩ := h; exact ⟨b, rfl, h1.mono k⟩
theorem int_at {w : World} {M : Ms} {a : Option Addr} {n c k : Nat} {l : List Int} (h : SlR w M (.slice a n c) l) (hk : k < l.length) : ∃ b off, a = some ⟨b, off, none⟩ ∧ ¬ M b ∧ w.cell? ⟨b, off + k, none⟩ = some (.int .i64 l[k]) := by
  obtain ⟨b, off, cs, rfl, hm, he, hc⟩ := h.at_ hk
  have he' : cs = [.int .i64 l[k]] := he
  subst he'
  have := hc 0 _ rfl
  rw [show Rp.sz Int = 1 from rfl, Nat.mul_one, Nat.add_zero] at this
  exact ⟨b, off, rfl, hm, this⟩
theorem lk_at {w : World} {M : Ms} {a : Option Addr} {n c k : Nat} {l : List Lk} (h : SlR w M (.slice a n c) l) (hk : k < l.length) : ∃ b off A C, a = some ⟨b, off, none⟩ ∧ ¬ M b ∧ w.cell? ⟨b, off + k * 3, none⟩ = some (.int .i64 l[k].lba) ∧
    w.cell? ⟨b, off + k * 3 + 1, none⟩ = some (.slice A l[k].reads.length C) ∧ w.cell? ⟨b, off + k * 3 + 2, none⟩ = some (.int .i64 l[k].writer) ∧ SlR w M (.slice A l[k].reads.length C) l[k].reads := by
  obtain ⟨b, off, cs, rfl, hm, he, hc⟩ := h.at_ hk
  obtain ⟨vb, rfl, hb⟩ := he
  obtain ⟨A, C, rfl⟩ := hb.form
  exact ⟨b, off, A, C, rfl, hm, hc 0 _ rfl, hc 1 _ rfl, hc 2 _ rfl, hb⟩
theorem sl_nil {α : Type} [Rp α] (w : World) (M : Ms) (c : Nat) (hc : c ≤ maxLen) : SlR w M (.slice none 0 c) ([] : List α) := ⟨none, c, [], rfl, Nat.zero_le _, hc, rfl, fun h => absurd rfl h⟩
theorem tyI : SlT Try.prog 37 3 Int := ⟨Try.underlying37, .int .i64 0, 1, 8, by kernel_rfl, rfl, by omega, rfl⟩
theorem tyL : SlT Try.prog 22 39 Lk := ⟨Try.underlying22, .agg #[.int .i64 0, .slice none 0 0, .int .i64 0], 3, 40, by kernel_rfl, rfl, by omega, rfl⟩
theorem noMok (w : World) : MOk w noM := fun _ h => h.elim
theorem take_ext {α : Type} {a b : List α} {k : Nat} (h : a.take k = b.take k) (ha : k < a.length) (hb : k < b.length) (he : a[k] = b[k]) : a.take (k + 1) = b.take (k + 1) := by
  rw [List.take_add_one, List.take_add_one, h, List.getElem?_eq_getElem ha, List.getElem?_eq_getElem hb, he]

/-- Integers own nothing: an owned row of them keeps away from whatever is older. -/
theorem OwR.ints {w : World} {M M' : Ms} {base : Nat} {e : TypeId} {v : Value} {l : List Int} (h : OwR w M base e v l) : OwR w M' base e v l := by
  obtain ⟨xs, ho, he⟩ := h
  exact ⟨xs, ho, he.mono fun cs x _ h => h⟩
theorem SlR.bare {α : Type} [Rp α] {w : World} {M : Ms} {v : Value} {l : List α} (h : SlR w M v l) : SlR w noM v l := h.mono (Keep.less fun _ h' => h'.elim)

set_option maxHeartbeats 400000 in
theorem twinI_any (v : Value) (l : List Int) (w : World) (Mi M : Ms) (h : SlR w Mi v l) (hM : MOk w M) (hl : l.length ≤ 1000000000) :
    Calls Try.prog 21 #[v] w fun e w' => ∃ r, e = .returned r ∧ SlR w' M r l ∧ Below w.heap.size w w' := by
  have hs := h.bare
  go_enter Try.func21, Try.ntmps21
  go_wp2_with (at_builtin; go_must (refine wpList_append_R (α := Int) (M := noM) (base := w.heap.size) (l := []) (m := l) (v := .slice none 0 0) (u := v) rfl (by rfl) tyI (by rfl) (OwR.nil _ _ _ _) (by rfl) (hs.mono (Keep.ownNil _ _ _)) (by simpa using hl) (Nat.le_refl _) ?_; intro v1 w1 ho hg hat))
  go_ret
  exact ⟨_, rfl, (OwR.ints (M' := M) ho).sl hM.new, Below.ofNil hg⟩

set_option maxHeartbeats 1000000 in
theorem ints_any (v1 v2 : Value) (l1 l2 : List Int) (w : World) (M1 M2 : Ms) (h1 : SlR w M1 v1 l1) (h2 : SlR w M2 v2 l2) (hl : l1.length ≤ 1000000000) :
    Calls Try.prog 30 #[v1, v2] w fun e w' => e = .returned (.bool (decide (l1 = l2))) ∧ Below w.heap.size w w' := by
  obtain ⟨a1, c1, rfl⟩ := h1.form
  obtain ⟨a2, c2, rfl⟩ := h2.form
  by_cases hlen : l1.length = l2.length
  case neg =>
    have hne : ¬ (l1.length : Int) = l2.length := by omega
    have hR := Lib.hid (show decide (l1 = l2) = false by simp only [decide_eq_false_iff_not]; intro e; exact hlen (by rw [e]))
    have hne' : ((l1.length : Int) != l2.length) = true := by simpa using hne
    clear h1 h2 hlen hne
    go_enter Try.func30, Try.ntmps30
    go_wp2
    go_ret
    rw [hR.out]
    exact ⟨rfl, Below.refl _ _⟩
  have H1 := Lib.hid h1
  have H2 := Lib.hid h2
  have hlen' : ((l1.length : Int) != l2.length) = false := by simp [hlen]
  have Hlen := Lib.hid hlen
  clear h1 h2 hlen
  go_enter Try.func30, Try.ntmps30
  go_wp2
  clear hlen'
  go_loopw [5] (fun i wr => ∃ k : Nat, k ≤ l1.length ∧ i = .int .i64 k ∧ Below w.heap.size w wr ∧ Hid (l1.take k = l2.take k)) (fun i _ => l1.length - (intOf i).toNat)
  case atStart => exact ⟨0, Nat.zero_le _, rfl, Below.refl _ _, by simp [Hid]⟩
  case round =>
    obtain ⟨k, hk, rfl, hB, heq⟩ := hrel
    by_cases hlt : k < l1.length
    · have hlt2 : k < l2.length := by rw [← Hlen.out]; exact hlt
      obtain ⟨b1, o1, rfl, -, x1⟩ := int_at (H1.out.mono (Keep.below hB)) hlt
      obtain ⟨b2, o2, rfl, -, x2⟩ := int_at (H2.out.mono (Keep.below hB)) hlt2
      have hS := Lib.hid (show wr.drew.cell? ⟨b1, o1 + k, none⟩ = some (.int .i64 l1[k]) ∧ wr.drew.cell? ⟨b2, o2 + k, none⟩ = some (.int .i64 l2[k]) from ⟨x1, x2⟩)
      clear x1 x2
      go_wp2_with fail
      refine rg_enter [0, 1, 2, 3, 4, 5, 6, 7, 8] (fun w' => w'.cell? ⟨b1, o1 + k, none⟩ = some (.int .i64 l1[k]) ∧ w'.cell? ⟨b2, o2 + k, none⟩ = some (.int .i64 l2[k])) (by kernel_rfl) ?_
      apply rg_take 0 rfl (by kernel_rfl) (fun _ _ _ h => h) (hS.out) rfl
      · (rintro W ⟨s0, s1⟩; go_simp; try rfl)
      · (go_simp; try rfl)
      apply rg_take 1 rfl (by kernel_rfl) (fun _ _ _ h => h) (hS.out) rfl
      · (rintro W ⟨s0, s1⟩; go_simp; try rfl)
      · (go_simp; try rfl)
      apply rg_take 2 rfl (by kernel_rfl) (fun _ _ _ h => h) (hS.out) rfl
      · (rintro W ⟨s0, s1⟩; go_simp; try rfl)
      · (go_simp; try rfl)
      apply rg_take 3 rfl (by kernel_rfl) (fun _ _ _ h => h) (hS.out) rfl
      · (rintro W ⟨s0, s1⟩; go_simp; try rfl)
      · (go_simp; try rfl)
      apply rg_take 4 rfl (by kernel_rfl) (fun _ _ _ h => h) (hS.out) rfl
      · (rintro W ⟨s0, s1⟩; go_simp; try rfl)
      · (go_simp; try rfl)
      apply rg_take 5 rfl (by kernel_rfl) (fun _ _ _ h => h) (hS.out) rfl
      · (rintro W ⟨s0, s1⟩; go_simp; try rfl)
      · (go_simp; try rfl)
      apply rg_take 6 rfl (by kernel_rfl) (fun _ _ _ h => h) (hS.out) rfl
      · (rintro W ⟨s0, s1⟩; go_simp; try rfl)
      · (go_simp; try rfl)
      apply rg_take 7 rfl (by kernel_rfl) (fun _ _ _ h => h) (hS.out) rfl
      · (rintro W ⟨s0, s1⟩; go_simp; try rfl)
      · (go_simp; try rfl)
      apply rg_take 8 rfl (by kernel_rfl) (fun _ _ _ h => h) (hS.out) rfl
      · (rintro W ⟨s0, s1⟩; go_simp; try rfl)
      · (go_simp; try rfl)
      refine rg_done (by kernel_rfl) ?_
      go_wp2
      · have hne : ¬ l1[k] = l2[k] := by
          have h : (l1[k] != l2[k]) = true := ‹_›
          simpa using h
        have hR := Lib.hid (show decide (l1 = l2) = false by simp only [decide_eq_false_iff_not]; intro e; subst e; exact hne rfl)
        go_ret
        rw [hR.out]
        exact ⟨rfl, hB.drew⟩
      · have he : l1[k] = l2[k] := by
          have h : (l1[k] != l2[k]) = false := ‹_›
          simpa using h
        go_roundw
        case rel => exact ⟨k + 1, by omega, by go_num, hB.drew, Lib.hid (take_ext heq.out hlt hlt2 he)⟩
        case measure => simp [intOf]; omega
    · obtain rfl : k = l1.length := by omega
      have hR := Lib.hid (show decide (l1 = l2) = true by
        simp only [decide_eq_true_eq]
        have h := heq.out
        rw [List.take_length] at h
        rw [h, List.take_of_length_le (by rw [Hlen.out]; exact Nat.le_refl _)])
      go_wp2
      go_ret
      rw [hR.out]
      exact ⟨rfl, hB⟩
end Go.Proofs.Ytombdkdidnoomaa
