/-
The contract of the reference's Right.
-/
import Derived.Test.YtkdjacmabeeceaaHeavy
namespace Go.Proofs.Ytkdjacmabeeceaa
open Go.RowKit
attribute [local go_sem ↓] Go.wp_at_zero Go.wp_at_succ

theorem all_take_succ {α : Type} (p : α → Bool) (l : List α) (k : Nat) (hk : k < l.length) : (l.take (k + 1)).all p = ((l.take k).all p && p l[k]) := by rw [take_one hk, List.all_append]; simp
theorem all_of_not {α : Type} {p : α → Bool} {l : List α} {k : Nat} (hk : k < l.length) (h : p l[k] = false) : l.all p = false := by
  rw [← Bool.not_eq_true, List.all_eq_true]
  intro h'; rw [h' _ (List.getElem_mem hk)] at h; cases h

set_option maxHeartbeats 8000000 in
theorem right_any (v : Value) (d : Dis) (w : World) (M : Ms) (h : Rv w M v d) :
    Calls Try.prog 22 #[v] w fun e w' => e = .returned (.bool (disB d)) ∧ Below w.heap.size w w' := by
  obtain ⟨c, k, rfl, hc, hk⟩ := rv_dis.1 h
  obtain ⟨ac, cc, rfl⟩ := hc.form
  obtain ⟨ak, ck, rfl⟩ := hk.form
  have hB := (Below.refl w.heap.size w).alloc (Nat.le_refl _) (.cells #[.slice ac d.cells.length cc, .slice ak d.cache.length ck, .int .i64 d.reqs, .int .i64 d.left] 27)
  have Hx := Lib.hid (Blk.new w 27 #[.slice ac d.cells.length cc, .slice ak d.cache.length ck, .int .i64 d.reqs, .int .i64 d.left])
  have Hc := Lib.hid (hc.mono (Keep.below hB))
  have Hk := Lib.hid (hk.mono (Keep.below hB))
  have HB := Lib.hid hB
  clear h hc hk hB
  have i1 := Lib.hid (rin_any d.cells.length 1 300)
  have i2 := Lib.hid (rin_any d.reqs 0 1048576)
  have i3 := Lib.hid (rin_any d.left (-1) 1048576)
  cases h1 : inB d.cells.length 1 300
  · rw [h1] at i1
    have hR := Lib.hid (show disB d = false by simp [disB, headB, h1])
    clear h1
    go_enter Try.func22, Try.ntmps22
    go_wp2_with (go_at_call 39; refine (i1.out _).mono ?_; rintro e w' ⟨rfl, rfl⟩)
    go_ret
    rw [hR.out]
    exact ⟨rfl, HB.out⟩
  rw [h1] at i1
  by_cases h2 : d.cache.length ≤ 2000
  case neg =>
    have hR := Lib.hid (show disB d = false by simp [disB, headB, h1, h2])
    have h2' : (2000 : Int) < d.cache.length := by omega
    clear h1
    go_enter Try.func22, Try.ntmps22
    go_wp2_with (go_at_call 39; refine (i1.out _).mono ?_; rintro e w' ⟨rfl, rfl⟩)
    go_ret
    rw [hR.out]
    exact ⟨rfl, HB.out⟩
  have h2' : ¬ (2000 : Int) < d.cache.length := by omega
  cases h3 : inB d.reqs 0 1048576
  · rw [h3] at i2
    have hR := Lib.hid (show disB d = false by simp [disB, headB, h3])
    clear h1 h3
    go_enter Try.func22, Try.ntmps22
    go_wp2_with fail
    refine (i1.out _).mono ?_
    rintro e w' ⟨rfl, rfl⟩
    go_wp2_with fail
    refine (i2.out _).mono ?_
    rintro e w' ⟨rfl, rfl⟩
    go_wp2
    go_ret
    rw [hR.out]
    exact ⟨rfl, HB.out⟩
  rw [h3] at i2
  cases h4 : inB d.left (-1) 1048576
  · rw [h4] at i3
    have hR := Lib.hid (show disB d = false by simp [disB, headB, h4])
    clear h1 h3 h4
    go_enter Try.func22, Try.ntmps22
    go_wp2_with fail
    refine (i1.out _).mono ?_
    rintro e w' ⟨rfl, rfl⟩
    go_wp2_with fail
    refine (i2.out _).mono ?_
    rintro e w' ⟨rfl, rfl⟩
    go_wp2_with fail
    refine (i3.out _).mono ?_
    rintro e w' ⟨rfl, rfl⟩
    go_wp2
    go_ret
    rw [hR.out]
    exact ⟨rfl, HB.out⟩
  rw [h4] at i3
  have hhead := Lib.hid (show headB d = true by simp [headB, h1, h2, h3, h4])
  have hl3 : d.cells.length ≤ 300 := by simp only [inB, Bool.and_eq_true, decide_eq_true_eq] at h1; omega
  clear h1 h3 h4
  go_enter Try.func22, Try.ntmps22
  go_wp2_with fail
  refine (i1.out _).mono ?_
  rintro e w' ⟨rfl, rfl⟩
  go_wp2_with fail
  refine (i2.out _).mono ?_
  rintro e w' ⟨rfl, rfl⟩
  go_wp2_with fail
  refine (i3.out _).mono ?_
  rintro e w' ⟨rfl, rfl⟩
  go_wp2
  generalize w.alloc (.cells #[.slice ac d.cells.length cc, .slice ak d.cache.length ck, .int .i64 d.reqs, .int .i64 d.left] 27) = w1 at *
  clear i1 i2 i3
  go_loopw [3] (fun i wr => ∃ k : Nat, k ≤ d.cells.length ∧ i = .int .i64 k ∧ Below w1.heap.size w1 wr ∧ Hid ((d.cells.take k).all cellB = true)) (fun i _ => d.cells.length - (intOf i).toNat)
  case atStart => exact ⟨0, Nat.zero_le _, rfl, Below.refl _ _, by simp [Hid]⟩
  case round =>
    obtain ⟨k, hk, rfl, hB, hall⟩ := hrel
    obtain ⟨y1, -, y3⟩ := (Hx.out.below hB).all
    by_cases hlt : k < d.cells.length
    · obtain ⟨b1, o1, vb1, vo1, rfl, -, p1, p2, p3, z1, u1⟩ := cel_at (Hc.out.mono (Keep.below hB)) hlt
      obtain ⟨ab1, cb1, rfl⟩ := z1.form
      obtain ⟨ao1, co1, rfl⟩ := u1.form
      have hB2 := Lib.hid (hB.alloc hB.size (.cells #[.int .i64 d.cells[k].state, .slice ab1 d.cells[k].bytes.length cb1, .slice ao1 d.cells[k].old.length co1] 47))
      have hi := Lib.hid (rin_any d.cells[k].state 0 2)
      have hs := all_take_succ cellB d.cells k hlt
      rw [hall.out, Bool.true_and] at hs
      have Hs := Lib.hid hs
      clear hs z1 u1
      cases hcb : cellB d.cells[k]
      · have hR := Lib.hid (show disB d = false by simp [disB, all_of_not hlt hcb])
        cases hin : inB d.cells[k].state 0 2
        · rw [hin] at hi
          clear hcb hin
          go_wp2_with (go_at_call 39; refine (hi.out _).mono ?_; rintro e w' ⟨rfl, rfl⟩)
          go_ret
          rw [hR.out]
          exact ⟨rfl, HB.out.trans (hB2.out.mono HB.out.size)⟩
        · have hor : 200 < d.cells[k].bytes.length ∨ (¬ 200 < d.cells[k].bytes.length ∧ 200 < d.cells[k].old.length) := by
            simp only [cellB, hin, Bool.true_and, Bool.and_eq_false_iff, decide_eq_false_iff_not] at hcb; omega
          rw [hin] at hi
          clear hcb hin
          rcases hor with ho | ⟨ho, ho2⟩
          · have ho' : (200 : Int) < d.cells[k].bytes.length := by omega
            go_wp2_with (go_at_call 39; refine (hi.out _).mono ?_; rintro e w' ⟨rfl, rfl⟩)
            go_ret
            rw [hR.out]
            exact ⟨rfl, HB.out.trans (hB2.out.mono HB.out.size)⟩
          · have ho' : ¬ (200 : Int) < d.cells[k].bytes.length := by omega
            have ho2' : (200 : Int) < d.cells[k].old.length := by omega
            go_wp2_with (go_at_call 39; refine (hi.out _).mono ?_; rintro e w' ⟨rfl, rfl⟩)
            go_ret
            rw [hR.out]
            exact ⟨rfl, HB.out.trans (hB2.out.mono HB.out.size)⟩
      · have hc3 : inB d.cells[k].state 0 2 = true ∧ d.cells[k].bytes.length ≤ 200 ∧ d.cells[k].old.length ≤ 200 := by simpa [cellB, and_assoc] using hcb
        rw [hc3.1] at hi
        rw [hcb] at Hs
        have ho' : ¬ (200 : Int) < d.cells[k].bytes.length := by omega
        have ho2' : ¬ (200 : Int) < d.cells[k].old.length := by omega
        clear hcb hc3
        go_wp2_with (go_at_call 39; refine (hi.out _).mono ?_; rintro e w' ⟨rfl, rfl⟩)
        go_roundw
        case rel => exact ⟨k + 1, by omega, by go_num, hB2.out, Hs⟩
        case measure => simp [intOf]; omega
    · obtain rfl : k = d.cells.length := by omega
      have hallC := Lib.hid (show d.cells.all cellB = true by have := hall.out; rwa [List.take_length] at this)
      go_wp2
      clear y1 y3
      have J := Lib.hid hB
      go_loopw [5] (fun i wr => ∃ k : Nat, k ≤ d.cache.length ∧ i = .int .i64 k ∧ Below w1.heap.size w1 wr ∧ Hid ((d.cache.take k).all (wriB d.cells.length) = true)) (fun i _ => d.cache.length - (intOf i).toNat)
      case atStart => exact ⟨0, Nat.zero_le _, rfl, J.out, by simp [Hid]⟩
      case round =>
        clear J hB hall
        obtain ⟨k, hk, rfl, hB, hall⟩ := hrel
        have y1 := (Hx.out.below hB).cell
        by_cases hlt : k < d.cache.length
        · obtain ⟨b1, o1, vb1, rfl, -, p1, p2, z1⟩ := wri_at (Hk.out.mono (Keep.below hB)) hlt
          obtain ⟨ab1, cb1, rfl⟩ := z1.form
          have hi := Lib.hid (rin_any d.cache[k].addr 0 (d.cells.length - 1))
          have hs := all_take_succ (wriB d.cells.length) d.cache k hlt
          rw [hall.out, Bool.true_and] at hs
          have Hs := Lib.hid hs
          have hS := Lib.hid (show (∀ i, wr.drew.cell? ⟨w.heap.size, i, none⟩ = #[Value.slice ac d.cells.length cc, .slice (some ⟨b1, o1, none⟩) d.cache.length ck, .int .i64 d.reqs, .int .i64 d.left][i]?) ∧ wr.drew.cell? ⟨b1, o1 + k * 2, none⟩ = some (.int .i64 d.cache[k].addr) ∧ wr.drew.cell? ⟨b1, o1 + k * 2 + 1, none⟩ = some (.slice ab1 d.cache[k].bytes.length cb1) from ⟨y1, p1, p2⟩)
          clear hs z1 p1 p2
          go_wp2_with fail
          clear y1
          refine rg_enter [0, 1, 2, 3, 4, 5, 6, 7, 8, 9, 11, 12, 13, 14, 15, 16, 17, 18, 19, 20, 21] (fun w' => (∀ i, w'.cell? ⟨w.heap.size, i, none⟩ = #[Value.slice ac d.cells.length cc, .slice (some ⟨b1, o1, none⟩) d.cache.length ck, .int .i64 d.reqs, .int .i64 d.left][i]?) ∧ w'.cell? ⟨b1, o1 + k * 2, none⟩ = some (.int .i64 d.cache[k].addr) ∧ w'.cell? ⟨b1, o1 + k * 2 + 1, none⟩ = some (.slice ab1 d.cache[k].bytes.length cb1)) (by kernel_rfl) ?_
          apply rg_take 0 rfl (by kernel_rfl) (fun _ _ _ h => h) (hS.out) rfl
          · (rintro W ⟨s0, s1, s2⟩; go_simp; try rfl)
          · (go_simp; try rfl)
          apply rg_take 1 rfl (by kernel_rfl) (fun _ _ _ h => h) (hS.out) rfl
          · (rintro W ⟨s0, s1, s2⟩; go_simp; try rfl)
          · (go_simp; try rfl)
          apply rg_take 2 rfl (by kernel_rfl) (fun _ _ _ h => h) (hS.out) rfl
          · (rintro W ⟨s0, s1, s2⟩; go_simp; try rfl)
          · (go_simp; try rfl)
          apply rg_take 3 rfl (by kernel_rfl) (fun _ _ _ h => h) (hS.out) rfl
          · (rintro W ⟨s0, s1, s2⟩; go_simp; try rfl)
          · (go_simp; try rfl)
          apply rg_take 4 rfl (by kernel_rfl) (fun _ _ _ h => h) (hS.out) rfl
          · (rintro W ⟨s0, s1, s2⟩; go_simp; try rfl)
          · (go_simp; try rfl)
          apply rg_take 5 rfl (by kernel_rfl) (fun _ _ _ h => h) (hS.out) rfl
          · (rintro W ⟨s0, s1, s2⟩; go_simp; try rfl)
          · (go_simp; try rfl)
          apply rg_take 6 rfl (by kernel_rfl) (fun _ _ _ h => h) (hS.out) rfl
          · (rintro W ⟨s0, s1, s2⟩; go_simp; try rfl)
          · (go_simp; try rfl)
          apply rg_take 7 rfl (by kernel_rfl) (fun _ _ _ h => h) (hS.out) rfl
          · (rintro W ⟨s0, s1, s2⟩; go_simp; try rfl)
          · (go_simp; try rfl)
          apply rg_take 8 rfl (by kernel_rfl) (fun _ _ _ h => h) (hS.out) rfl
          · (rintro W ⟨s0, s1, s2⟩; go_simp; try rfl)
          · (go_simp; try rfl)
          apply rg_take 9 rfl (by kernel_rfl) (fun _ _ _ h => h) (hS.out) rfl
          · (rintro W ⟨s0, s1, s2⟩; go_simp; try rfl)
          · (go_simp; try rfl)
          rw [show IntKind.i64.wrap ((d.cells.length : Int) - 1) = (d.cells.length : Int) - 1 by simp only [IntKind.wrap_i64]; omega]
          cases hin : inB d.cache[k].addr 0 (d.cells.length - 1)
          · have hR := Lib.hid (show disB d = false by simp [disB, all_of_not (p := wriB d.cells.length) hlt (by simp [wriB, hin])])
            rw [hin] at hi
            clear hin
            refine rg_only 10 (by kernel_rfl) rfl (fun K hK => ?_)
            go_simp
            refine (hi.out _).mono ?_
            rintro e w' ⟨rfl, rfl⟩
            refine hK _ _ ⟨fun _ => hS.out, ?_⟩; clear hK K
            apply rg_take 11 rfl (by kernel_rfl) (fun _ _ _ h => h) (hS.out) rfl
            · (rintro W ⟨s0, s1, s2⟩; go_simp; try rfl)
            · (go_simp; try rfl)
            apply rg_take 12 rfl (by kernel_rfl) (fun _ _ _ h => h) (hS.out) rfl
            · (rintro W ⟨s0, s1, s2⟩; go_simp; try rfl)
            · (go_simp; try rfl)
            apply rg_skip 13 rfl (by kernel_rfl) (fun _ _ _ h => h) (hS.out) rfl
            · (go_simp; try rfl)
            apply rg_skip 14 rfl (by kernel_rfl) (fun _ _ _ h => h) (hS.out) rfl
            · (go_simp; try rfl)
            apply rg_skip 15 rfl (by kernel_rfl) (fun _ _ _ h => h) (hS.out) rfl
            · (go_simp; try rfl)
            apply rg_skip 16 rfl (by kernel_rfl) (fun _ _ _ h => h) (hS.out) rfl
            · (go_simp; try rfl)
            apply rg_skip 17 rfl (by kernel_rfl) (fun _ _ _ h => h) (hS.out) rfl
            · (go_simp; try rfl)
            apply rg_skip 18 rfl (by kernel_rfl) (fun _ _ _ h => h) (hS.out) rfl
            · (go_simp; try rfl)
            apply rg_skip 19 rfl (by kernel_rfl) (fun _ _ _ h => h) (hS.out) rfl
            · (go_simp; try rfl)
            apply rg_skip 20 rfl (by kernel_rfl) (fun _ _ _ h => h) (hS.out) rfl
            · (go_simp; try rfl)
            apply rg_take 21 rfl (by kernel_rfl) (fun _ _ _ h => h) (hS.out) rfl
            · (rintro W ⟨s0, s1, s2⟩; go_simp; try rfl)
            · (go_simp; try rfl)
            refine rg_done (by kernel_rfl) ?_
            go_wp2
            go_ret
            rw [hR.out]
            exact ⟨rfl, HB.out.trans (hB.drew.mono HB.out.size)⟩
          · by_cases ho : d.cache[k].bytes.length ≤ 200
            · have hw : wriB d.cells.length d.cache[k] = true := by simp [wriB, hin, ho]
              rw [hw] at Hs
              rw [hin] at hi
              have ho' : ¬ (200 : Int) < d.cache[k].bytes.length := by omega
              clear hin hw
              refine rg_only 10 (by kernel_rfl) rfl (fun K hK => ?_)
              go_simp
              refine (hi.out _).mono ?_
              rintro e w' ⟨rfl, rfl⟩
              refine hK _ _ ⟨fun _ => hS.out, ?_⟩; clear hK K
              apply rg_take 11 rfl (by kernel_rfl) (fun _ _ _ h => h) (hS.out) rfl
              · (rintro W ⟨s0, s1, s2⟩; go_simp; try rfl)
              · (go_simp; try rfl)
              apply rg_take 12 rfl (by kernel_rfl) (fun _ _ _ h => h) (hS.out) rfl
              · (rintro W ⟨s0, s1, s2⟩; go_simp; try rfl)
              · (go_simp; try rfl)
              apply rg_take 13 rfl (by kernel_rfl) (fun _ _ _ h => h) (hS.out) rfl
              · (rintro W ⟨s0, s1, s2⟩; go_simp; try rfl)
              · (go_simp; try rfl)
              apply rg_take 14 rfl (by kernel_rfl) (fun _ _ _ h => h) (hS.out) rfl
              · (rintro W ⟨s0, s1, s2⟩; go_simp; try rfl)
              · (go_simp; try rfl)
              apply rg_take 15 rfl (by kernel_rfl) (fun _ _ _ h => h) (hS.out) rfl
              · (rintro W ⟨s0, s1, s2⟩; go_simp; try rfl)
              · (go_simp; try rfl)
              apply rg_take 16 rfl (by kernel_rfl) (fun _ _ _ h => h) (hS.out) rfl
              · (rintro W ⟨s0, s1, s2⟩; go_simp; try rfl)
              · (go_simp; try rfl)
              apply rg_take 17 rfl (by kernel_rfl) (fun _ _ _ h => h) (hS.out) rfl
              · (rintro W ⟨s0, s1, s2⟩; go_simp; try rfl)
              · (go_simp; try rfl)
              apply rg_take 18 rfl (by kernel_rfl) (fun _ _ _ h => h) (hS.out) rfl
              · (rintro W ⟨s0, s1, s2⟩; go_simp; try rfl)
              · (go_simp; try rfl)
              apply rg_take 19 rfl (by kernel_rfl) (fun _ _ _ h => h) (hS.out) rfl
              · (rintro W ⟨s0, s1, s2⟩; go_simp; try rfl)
              · (go_simp; try rfl)
              apply rg_take 20 rfl (by kernel_rfl) (fun _ _ _ h => h) (hS.out) rfl
              · (rintro W ⟨s0, s1, s2⟩; go_simp; try rfl)
              · (go_simp; try rfl)
              apply rg_take 21 rfl (by kernel_rfl) (fun _ _ _ h => h) (hS.out) rfl
              · (rintro W ⟨s0, s1, s2⟩; go_simp; try rfl)
              · (go_simp; try rfl)
              refine rg_done (by kernel_rfl) ?_
              go_wp2
              go_roundw
              case rel => exact ⟨k + 1, by omega, by go_num, hB.drew, Hs⟩
              case measure => simp [intOf]; omega
            · have hR := Lib.hid (show disB d = false by simp [disB, all_of_not (p := wriB d.cells.length) hlt (by simp [wriB, ho])])
              rw [hin] at hi
              have ho' : (200 : Int) < d.cache[k].bytes.length := by omega
              clear hin
              refine rg_only 10 (by kernel_rfl) rfl (fun K hK => ?_)
              go_simp
              refine (hi.out _).mono ?_
              rintro e w' ⟨rfl, rfl⟩
              refine hK _ _ ⟨fun _ => hS.out, ?_⟩; clear hK K
              apply rg_take 11 rfl (by kernel_rfl) (fun _ _ _ h => h) (hS.out) rfl
              · (rintro W ⟨s0, s1, s2⟩; go_simp; try rfl)
              · (go_simp; try rfl)
              apply rg_take 12 rfl (by kernel_rfl) (fun _ _ _ h => h) (hS.out) rfl
              · (rintro W ⟨s0, s1, s2⟩; go_simp; try rfl)
              · (go_simp; try rfl)
              apply rg_take 13 rfl (by kernel_rfl) (fun _ _ _ h => h) (hS.out) rfl
              · (rintro W ⟨s0, s1, s2⟩; go_simp; try rfl)
              · (go_simp; try rfl)
              apply rg_take 14 rfl (by kernel_rfl) (fun _ _ _ h => h) (hS.out) rfl
              · (rintro W ⟨s0, s1, s2⟩; go_simp; try rfl)
              · (go_simp; try rfl)
              apply rg_take 15 rfl (by kernel_rfl) (fun _ _ _ h => h) (hS.out) rfl
              · (rintro W ⟨s0, s1, s2⟩; go_simp; try rfl)
              · (go_simp; try rfl)
              apply rg_take 16 rfl (by kernel_rfl) (fun _ _ _ h => h) (hS.out) rfl
              · (rintro W ⟨s0, s1, s2⟩; go_simp; try rfl)
              · (go_simp; try rfl)
              apply rg_take 17 rfl (by kernel_rfl) (fun _ _ _ h => h) (hS.out) rfl
              · (rintro W ⟨s0, s1, s2⟩; go_simp; try rfl)
              · (go_simp; try rfl)
              apply rg_take 18 rfl (by kernel_rfl) (fun _ _ _ h => h) (hS.out) rfl
              · (rintro W ⟨s0, s1, s2⟩; go_simp; try rfl)
              · (go_simp; try rfl)
              apply rg_take 19 rfl (by kernel_rfl) (fun _ _ _ h => h) (hS.out) rfl
              · (rintro W ⟨s0, s1, s2⟩; go_simp; try rfl)
              · (go_simp; try rfl)
              apply rg_take 20 rfl (by kernel_rfl) (fun _ _ _ h => h) (hS.out) rfl
              · (rintro W ⟨s0, s1, s2⟩; go_simp; try rfl)
              · (go_simp; try rfl)
              apply rg_take 21 rfl (by kernel_rfl) (fun _ _ _ h => h) (hS.out) rfl
              · (rintro W ⟨s0, s1, s2⟩; go_simp; try rfl)
              · (go_simp; try rfl)
              refine rg_done (by kernel_rfl) ?_
              go_wp2
              go_ret
              rw [hR.out]
              exact ⟨rfl, HB.out.trans (hB.drew.mono HB.out.size)⟩
        · obtain rfl : k = d.cache.length := by omega
          have hR := Lib.hid (show disB d = true by
            have := hall.out
            rw [List.take_length] at this
            simp [disB, hhead.out, hallC.out, this])
          go_wp2
          go_ret
          rw [hR.out]
          exact ⟨rfl, HB.out.trans (hB.mono HB.out.size)⟩
end Go.Proofs.Ytkdjacmabeeceaa
