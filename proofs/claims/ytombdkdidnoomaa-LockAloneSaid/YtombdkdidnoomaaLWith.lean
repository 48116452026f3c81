/-
The reference: a lock put in its place.
-/
import Derived.Test.YtombdkdidnoomaaLRef2b
namespace Go.Proofs.Ytombdkdidnoomaa
open Go.RowKit
attribute [local go_sem ↓] Go.wp_at_zero Go.wp_at_succ

set_option maxHeartbeats 8000000 in
theorem with_any (v xa : Value) (l : List Lk) (i : Nat) (is : Bool) (x : Lk) (w : World) (M : Ms) (h : SlR w M v l) (hx : SlR w noM xa x.reads) (hi : i ≤ l.length) (his : is = true → i < l.length) (hl : l.length ≤ 1000000) (hb : ∀ x ∈ l, x.reads.length ≤ 1000000000) :
    Calls Try.prog 38 #[v, .int .i64 i, .bool is, .agg #[.int .i64 x.lba, xa, .int .i64 x.writer]] w fun e w' => ∃ r, e = .returned r ∧ OwR w' noM w.heap.size 39 r (l.take i ++ [x] ++ l.drop (if is = true then i + 1 else i)) ∧ Below w.heap.size w w' := by
  have hbx := (Below.refl w.heap.size w).alloc (Nat.le_refl _) (.cells #[.int .i64 x.lba, xa, .int .i64 x.writer] 39)
  have hblk := Blk.new w 39 #[.int .i64 x.lba, xa, .int .i64 x.writer]
  obtain ⟨w0, hw0⟩ : ∃ w0, w0 = w.alloc (.cells #[.int .i64 x.lba, xa, .int .i64 x.writer] 39) := ⟨_, rfl⟩
  rw [← hw0] at hbx hblk
  have Hw0 := Lib.hid hw0
  have HX := Lib.hid hbx
  have X0 := Lib.hid (show w0.cell? ⟨w.heap.size, 0, none⟩ = some (.int .i64 x.lba) by rw [hblk.cell]; rfl)
  have X1 := Lib.hid (show w0.cell? ⟨w.heap.size, 1, none⟩ = some xa by rw [hblk.cell]; rfl)
  have X2 := Lib.hid (show w0.cell? ⟨w.heap.size, 2, none⟩ = some (.int .i64 x.writer) by rw [hblk.cell]; rfl)
  obtain ⟨a, c, rfl⟩ := h.form
  obtain ⟨-, hc1, hc2⟩ := h.cap
  have HXA := Lib.hid hx
  obtain ⟨Ax, Cx, rfl⟩ := hx.form
  have H := Lib.hid h
  have HBL := Lib.hid hb
  have hT1 := Lib.hid (twinL_any _ (l.take i) w0 _ noM ((h.take_ hi).mono (Keep.below hbx)) (noMok _) (by rw [List.length_take]; omega) (fun y hy => hb y (List.mem_of_mem_take hy)))
  have hic : i ≤ c := by omega
  have hic' : (i : Int) ≤ c := by omega
  have hi' : (i : Int) ≤ l.length := by omega
  clear hw0 hbx hblk hx hb h
  cases a with
  | none =>
    obtain ⟨rfl, h0⟩ := H.out.dropN
    obtain rfl : i = 0 := by simpa using hi
    cases is with
    | true => exact absurd (his rfl) (by simp)
    | false =>
      have hd := Lib.hid (show SlR w noM (.slice none 0 c) (([] : List Lk).drop 0) from sl_nil (α := Lk) w noM c (by unfold maxLen; omega))
      clear hi his
      simp only [Bool.false_eq_true, if_false]
      go_enter Try.func38, Try.ntmps38
      go_wp2_with fail
      rw [← Hw0.out]
      ((with_reducible refine hT1.out.mono ?_))
      rintro e w1 ⟨r1, rfl, ho1, hB1⟩
      have O1 := Lib.hid ho1
      have HB1 := Lib.hid (HX.out.trans (hB1.mono HX.out.size))
      have y0 := below_cell hB1 X0.out
      have y1 := below_cell hB1 X1.out
      have y2 := below_cell hB1 X2.out
      have hb3 := HB1.out.alloc HB1.out.size (.cells #[.int .i64 x.lba, .slice Ax x.reads.length Cx, .int .i64 x.writer] 39)
      have hblk := Blk.new w1 39 #[.int .i64 x.lba, .slice Ax x.reads.length Cx, .int .i64 x.writer]
      have ho1' := (ho1.mono_base (show w.heap.size ≤ w0.heap.size from HX.out.size)).below ((Below.refl w1.heap.size w1).alloc (Nat.le_refl _) (.cells #[.int .i64 x.lba, .slice Ax x.reads.length Cx, .int .i64 x.writer] 39))
      have hS := Lib.hid (show SlR (w1.alloc (.cells #[.int .i64 x.lba, .slice Ax x.reads.length Cx, .int .i64 x.writer] 39)) (fun b => noM b ∨ r1.ownBlock = some b) (.slice (some ⟨w1.heap.size, 0, none⟩) 1 1) [x] from
        SlR.one hblk ⟨(.slice Ax x.reads.length Cx), rfl, HXA.out.mono (Keep.own hb3 ho1')⟩ (fun h' => h'.elim (fun h => h) (fun h => by have := ho1.own_lt h; omega)))
      have O3 := Lib.hid ho1'
      have HB3 := Lib.hid hb3
      have hlk : (([] : List Lk).take 0).length + [x].length ≤ 1000000000 := by rw [List.length_take, List.length_singleton]; omega
      have hlk2 : (([] : List Lk).take 0 ++ [x]).length + (([] : List Lk).drop 0).length ≤ 1000000000 := by rw [List.length_append, List.length_take, List.length_drop, List.length_singleton]; omega
      clear ho1 hB1 hb3 hblk ho1' hT1
      go_wp2_with (at_builtin; go_must (refine wpList_append_R (α := Lk) (M := noM) (base := w.heap.size) (l := ([] : List Lk).take 0) (m := [x]) rfl (by rfl) tyL (by rfl) O3.out (by rfl) hS.out hlk HB3.out.size ?_); intro v4 w4 ho4 hg4 hat4; have HB4 := Lib.hid (HB3.out.grown hg4 HB3.out.size (fun b e => O3.out.own_ge e)); have O4 := Lib.hid ho4; have HT2 := Lib.hid (twinL_any (.slice none 0 c) (([] : List Lk).drop 0) w4 _ (fun b => v4.ownBlock = some b) (hd.out.bare.mono (Keep.below HB4.out)) (fun b hb => ho4.own_lt hb) (by rw [List.length_drop]; omega) (fun y hy => HBL.out y (List.mem_of_mem_drop hy))); clear hg4 hat4 ho4 y0 y1 y2)
      ((with_reducible refine HT2.out.mono ?_))
      rintro e w5 ⟨r5, rfl, ho5, hB5⟩
      have hS5 := Lib.hid (OwR.sl' (M := fun b => noM b ∨ v4.ownBlock = some b) (ho5.less (fun b h => h.elim (fun h => h.elim) (fun h => h))) (fun b hb hm => hm.elim (fun h => h) (fun h => by have := ho5.own_ge hb; have := O4.out.own_lt h; omega)))
      have O5 := Lib.hid (O4.out.below hB5)
      have HB5 := Lib.hid (HB4.out.trans (hB5.mono HB4.out.size))
      clear ho5 hB5 HT2
      go_wp2_with (at_builtin; go_must (refine wpList_append_R (α := Lk) (M := noM) (base := w.heap.size) (l := ([] : List Lk).take 0 ++ [x]) (m := ([] : List Lk).drop 0) rfl (by rfl) tyL (by rfl) O5.out (by rfl) hS5.out hlk2 HB5.out.size ?_); intro v6 w6 ho6 hg6 hat6)
      go_ret
      exact ⟨_, rfl, ho6, HB5.out.grown hg6 HB5.out.size (fun b e => O5.out.own_ge e)⟩
  | some ad =>
    obtain ⟨bb, oo, sp⟩ := ad
    by_cases hne : l = []
    · subst hne
      obtain rfl : i = 0 := by simpa using hi
      cases is with
      | true => exact absurd (his rfl) (by simp)
      | false =>
        have Hnl := Lib.hid (show ∀ A C, C ≤ 9223372036854775807 → SlR w noM (.slice A 0 C) (([] : List Lk).drop 0) from fun A C hC => ⟨A, C, [], rfl, Nat.zero_le _, by unfold maxLen; omega, rfl, fun h => absurd rfl h⟩)
        clear hi his
        simp only [Bool.false_eq_true, if_false]
        by_cases hck : c = 0
        · subst hck
          have hd := Lib.hid (Hnl.out (some ⟨bb, oo, sp⟩) 0 (by omega))
          go_enter Try.func38, Try.ntmps38
          go_wp2_with fail
          rw [← Hw0.out]
          ((with_reducible refine hT1.out.mono ?_))
          rintro e w1 ⟨r1, rfl, ho1, hB1⟩
          have O1 := Lib.hid ho1
          have HB1 := Lib.hid (HX.out.trans (hB1.mono HX.out.size))
          have y0 := below_cell hB1 X0.out
          have y1 := below_cell hB1 X1.out
          have y2 := below_cell hB1 X2.out
          have hb3 := HB1.out.alloc HB1.out.size (.cells #[.int .i64 x.lba, .slice Ax x.reads.length Cx, .int .i64 x.writer] 39)
          have hblk := Blk.new w1 39 #[.int .i64 x.lba, .slice Ax x.reads.length Cx, .int .i64 x.writer]
          have ho1' := (ho1.mono_base (show w.heap.size ≤ w0.heap.size from HX.out.size)).below ((Below.refl w1.heap.size w1).alloc (Nat.le_refl _) (.cells #[.int .i64 x.lba, .slice Ax x.reads.length Cx, .int .i64 x.writer] 39))
          have hS := Lib.hid (show SlR (w1.alloc (.cells #[.int .i64 x.lba, .slice Ax x.reads.length Cx, .int .i64 x.writer] 39)) (fun b => noM b ∨ r1.ownBlock = some b) (.slice (some ⟨w1.heap.size, 0, none⟩) 1 1) [x] from
            SlR.one hblk ⟨(.slice Ax x.reads.length Cx), rfl, HXA.out.mono (Keep.own hb3 ho1')⟩ (fun h' => h'.elim (fun h => h) (fun h => by have := ho1.own_lt h; omega)))
          have O3 := Lib.hid ho1'
          have HB3 := Lib.hid hb3
          have hlk : (([] : List Lk).take 0).length + [x].length ≤ 1000000000 := by rw [List.length_take, List.length_singleton]; omega
          have hlk2 : (([] : List Lk).take 0 ++ [x]).length + (([] : List Lk).drop 0).length ≤ 1000000000 := by rw [List.length_append, List.length_take, List.length_drop, List.length_singleton]; omega
          clear ho1 hB1 hb3 hblk ho1' hT1
          go_wp2_with (at_builtin; go_must (refine wpList_append_R (α := Lk) (M := noM) (base := w.heap.size) (l := ([] : List Lk).take 0) (m := [x]) rfl (by rfl) tyL (by rfl) O3.out (by rfl) hS.out hlk HB3.out.size ?_); intro v4 w4 ho4 hg4 hat4; have HB4 := Lib.hid (HB3.out.grown hg4 HB3.out.size (fun b e => O3.out.own_ge e)); have O4 := Lib.hid ho4; have HT2 := Lib.hid (twinL_any (.slice (some ⟨bb, oo, sp⟩) 0 0) (([] : List Lk).drop 0) w4 _ (fun b => v4.ownBlock = some b) (hd.out.bare.mono (Keep.below HB4.out)) (fun b hb => ho4.own_lt hb) (by rw [List.length_drop]; omega) (fun y hy => HBL.out y (List.mem_of_mem_drop hy))); clear hg4 hat4 ho4 y0 y1 y2)
          ((with_reducible refine HT2.out.mono ?_))
          rintro e w5 ⟨r5, rfl, ho5, hB5⟩
          have hS5 := Lib.hid (OwR.sl' (M := fun b => noM b ∨ v4.ownBlock = some b) (ho5.less (fun b h => h.elim (fun h => h.elim) (fun h => h))) (fun b hb hm => hm.elim (fun h => h) (fun h => by have := ho5.own_ge hb; have := O4.out.own_lt h; omega)))
          have O5 := Lib.hid (O4.out.below hB5)
          have HB5 := Lib.hid (HB4.out.trans (hB5.mono HB4.out.size))
          clear ho5 hB5 HT2
          go_wp2_with (at_builtin; go_must (refine wpList_append_R (α := Lk) (M := noM) (base := w.heap.size) (l := ([] : List Lk).take 0 ++ [x]) (m := ([] : List Lk).drop 0) rfl (by rfl) tyL (by rfl) O5.out (by rfl) hS5.out hlk2 HB5.out.size ?_); intro v6 w6 ho6 hg6 hat6)
          go_ret
          exact ⟨_, rfl, ho6, HB5.out.grown hg6 HB5.out.size (fun b e => O5.out.own_ge e)⟩
        · have hd := Lib.hid (Hnl.out (some ⟨bb, oo, sp⟩) c (by omega))
          go_enter Try.func38, Try.ntmps38
          go_wp2_with fail
          rw [← Hw0.out]
          ((with_reducible refine hT1.out.mono ?_))
          rintro e w1 ⟨r1, rfl, ho1, hB1⟩
          have O1 := Lib.hid ho1
          have HB1 := Lib.hid (HX.out.trans (hB1.mono HX.out.size))
          have y0 := below_cell hB1 X0.out
          have y1 := below_cell hB1 X1.out
          have y2 := below_cell hB1 X2.out
          have hb3 := HB1.out.alloc HB1.out.size (.cells #[.int .i64 x.lba, .slice Ax x.reads.length Cx, .int .i64 x.writer] 39)
          have hblk := Blk.new w1 39 #[.int .i64 x.lba, .slice Ax x.reads.length Cx, .int .i64 x.writer]
          have ho1' := (ho1.mono_base (show w.heap.size ≤ w0.heap.size from HX.out.size)).below ((Below.refl w1.heap.size w1).alloc (Nat.le_refl _) (.cells #[.int .i64 x.lba, .slice Ax x.reads.length Cx, .int .i64 x.writer] 39))
          have hS := Lib.hid (show SlR (w1.alloc (.cells #[.int .i64 x.lba, .slice Ax x.reads.length Cx, .int .i64 x.writer] 39)) (fun b => noM b ∨ r1.ownBlock = some b) (.slice (some ⟨w1.heap.size, 0, none⟩) 1 1) [x] from
            SlR.one hblk ⟨(.slice Ax x.reads.length Cx), rfl, HXA.out.mono (Keep.own hb3 ho1')⟩ (fun h' => h'.elim (fun h => h) (fun h => by have := ho1.own_lt h; omega)))
          have O3 := Lib.hid ho1'
          have HB3 := Lib.hid hb3
          have hlk : (([] : List Lk).take 0).length + [x].length ≤ 1000000000 := by rw [List.length_take, List.length_singleton]; omega
          have hlk2 : (([] : List Lk).take 0 ++ [x]).length + (([] : List Lk).drop 0).length ≤ 1000000000 := by rw [List.length_append, List.length_take, List.length_drop, List.length_singleton]; omega
          clear ho1 hB1 hb3 hblk ho1' hT1
          go_wp2_with (at_builtin; go_must (refine wpList_append_R (α := Lk) (M := noM) (base := w.heap.size) (l := ([] : List Lk).take 0) (m := [x]) rfl (by rfl) tyL (by rfl) O3.out (by rfl) hS.out hlk HB3.out.size ?_); intro v4 w4 ho4 hg4 hat4; have HB4 := Lib.hid (HB3.out.grown hg4 HB3.out.size (fun b e => O3.out.own_ge e)); have O4 := Lib.hid ho4; have HT2 := Lib.hid (twinL_any (.slice (some ⟨bb, oo, sp⟩) 0 c) (([] : List Lk).drop 0) w4 _ (fun b => v4.ownBlock = some b) (hd.out.bare.mono (Keep.below HB4.out)) (fun b hb => ho4.own_lt hb) (by rw [List.length_drop]; omega) (fun y hy => HBL.out y (List.mem_of_mem_drop hy))); clear hg4 hat4 ho4 y0 y1 y2)
          ((with_reducible refine HT2.out.mono ?_))
          rintro e w5 ⟨r5, rfl, ho5, hB5⟩
          have hS5 := Lib.hid (OwR.sl' (M := fun b => noM b ∨ v4.ownBlock = some b) (ho5.less (fun b h => h.elim (fun h => h.elim) (fun h => h))) (fun b hb hm => hm.elim (fun h => h) (fun h => by have := ho5.own_ge hb; have := O4.out.own_lt h; omega)))
          have O5 := Lib.hid (O4.out.below hB5)
          have HB5 := Lib.hid (HB4.out.trans (hB5.mono HB4.out.size))
          clear ho5 hB5 HT2
          go_wp2_with (at_builtin; go_must (refine wpList_append_R (α := Lk) (M := noM) (base := w.heap.size) (l := ([] : List Lk).take 0 ++ [x]) (m := ([] : List Lk).drop 0) rfl (by rfl) tyL (by rfl) O5.out (by rfl) hS5.out hlk2 HB5.out.size ?_); intro v6 w6 ho6 hg6 hat6)
          go_ret
          exact ⟨_, rfl, ho6, HB5.out.grown hg6 HB5.out.size (fun b e => O5.out.own_ge e)⟩
    · obtain rfl : sp = none := by
        obtain ⟨a', c', xs, e, _, _, _, h4⟩ := H.out
        cases e
        obtain ⟨b, off, e, _⟩ := h4 hne
        cases e; rfl
      cases is with
      | false =>
        simp only [Bool.false_eq_true, if_false]
        clear his hne
        have hd0 := H.out.drop_ hi
        rw [show Rp.sz Lk = 3 from rfl] at hd0
        by_cases hck : c = i
        · subst hck
          have hd := Lib.hid (show SlR w noM (.slice (some ⟨bb, oo, none⟩) 0 0) (l.drop c) from by rw [List.drop_eq_nil_of_le (by omega)]; exact ⟨_, 0, [], rfl, Nat.zero_le _, Nat.zero_le _, rfl, fun h => absurd rfl h⟩)
          clear hd0
          go_enter Try.func38, Try.ntmps38
          go_wp2_with fail
          rw [← Hw0.out]
          ((with_reducible refine hT1.out.mono ?_))
          rintro e w1 ⟨r1, rfl, ho1, hB1⟩
          have O1 := Lib.hid ho1
          have HB1 := Lib.hid (HX.out.trans (hB1.mono HX.out.size))
          have y0 := below_cell hB1 X0.out
          have y1 := below_cell hB1 X1.out
          have y2 := below_cell hB1 X2.out
          have hb3 := HB1.out.alloc HB1.out.size (.cells #[.int .i64 x.lba, .slice Ax x.reads.length Cx, .int .i64 x.writer] 39)
          have hblk := Blk.new w1 39 #[.int .i64 x.lba, .slice Ax x.reads.length Cx, .int .i64 x.writer]
          have ho1' := (ho1.mono_base (show w.heap.size ≤ w0.heap.size from HX.out.size)).below ((Below.refl w1.heap.size w1).alloc (Nat.le_refl _) (.cells #[.int .i64 x.lba, .slice Ax x.reads.length Cx, .int .i64 x.writer] 39))
          have hS := Lib.hid (show SlR (w1.alloc (.cells #[.int .i64 x.lba, .slice Ax x.reads.length Cx, .int .i64 x.writer] 39)) (fun b => noM b ∨ r1.ownBlock = some b) (.slice (some ⟨w1.heap.size, 0, none⟩) 1 1) [x] from
            SlR.one hblk ⟨(.slice Ax x.reads.length Cx), rfl, HXA.out.mono (Keep.own hb3 ho1')⟩ (fun h' => h'.elim (fun h => h) (fun h => by have := ho1.own_lt h; omega)))
          have O3 := Lib.hid ho1'
          have HB3 := Lib.hid hb3
          have hlk : (l.take c).length + [x].length ≤ 1000000000 := by rw [List.length_take, List.length_singleton]; omega
          have hlk2 : (l.take c ++ [x]).length + (l.drop (c)).length ≤ 1000000000 := by rw [List.length_append, List.length_take, List.length_drop, List.length_singleton]; omega
          clear ho1 hB1 hb3 hblk ho1' hT1
          go_wp2_with (at_builtin; go_must (refine wpList_append_R (α := Lk) (M := noM) (base := w.heap.size) (l := l.take c) (m := [x]) rfl (by rfl) tyL (by rfl) O3.out (by rfl) hS.out hlk HB3.out.size ?_); intro v4 w4 ho4 hg4 hat4; have HB4 := Lib.hid (HB3.out.grown hg4 HB3.out.size (fun b e => O3.out.own_ge e)); have O4 := Lib.hid ho4; have HT2 := Lib.hid (twinL_any (.slice (some ⟨bb, oo, none⟩) 0 0) (l.drop (c)) w4 _ (fun b => v4.ownBlock = some b) (hd.out.bare.mono (Keep.below HB4.out)) (fun b hb => ho4.own_lt hb) (by rw [List.length_drop]; omega) (fun y hy => HBL.out y (List.mem_of_mem_drop hy))); clear hg4 hat4 ho4 y0 y1 y2)
          ((with_reducible refine HT2.out.mono ?_))
          rintro e w5 ⟨r5, rfl, ho5, hB5⟩
          have hS5 := Lib.hid (OwR.sl' (M := fun b => noM b ∨ v4.ownBlock = some b) (ho5.less (fun b h => h.elim (fun h => h.elim) (fun h => h))) (fun b hb hm => hm.elim (fun h => h) (fun h => by have := ho5.own_ge hb; have := O4.out.own_lt h; omega)))
          have O5 := Lib.hid (O4.out.below hB5)
          have HB5 := Lib.hid (HB4.out.trans (hB5.mono HB4.out.size))
          clear ho5 hB5 HT2
          go_wp2_with (at_builtin; go_must (refine wpList_append_R (α := Lk) (M := noM) (base := w.heap.size) (l := l.take c ++ [x]) (m := l.drop (c)) rfl (by rfl) tyL (by rfl) O5.out (by rfl) hS5.out hlk2 HB5.out.size ?_); intro v6 w6 ho6 hg6 hat6)
          go_ret
          exact ⟨_, rfl, ho6, HB5.out.grown hg6 HB5.out.size (fun b e => O5.out.own_ge e)⟩
        · rw [if_neg hck] at hd0
          have hd := Lib.hid hd0
          clear hd0
          go_enter Try.func38, Try.ntmps38
          go_wp2_with fail
          rw [← Hw0.out]
          ((with_reducible refine hT1.out.mono ?_))
          rintro e w1 ⟨r1, rfl, ho1, hB1⟩
          have O1 := Lib.hid ho1
          have HB1 := Lib.hid (HX.out.trans (hB1.mono HX.out.size))
          have y0 := below_cell hB1 X0.out
          have y1 := below_cell hB1 X1.out
          have y2 := below_cell hB1 X2.out
          have hb3 := HB1.out.alloc HB1.out.size (.cells #[.int .i64 x.lba, .slice Ax x.reads.length Cx, .int .i64 x.writer] 39)
          have hblk := Blk.new w1 39 #[.int .i64 x.lba, .slice Ax x.reads.length Cx, .int .i64 x.writer]
          have ho1' := (ho1.mono_base (show w.heap.size ≤ w0.heap.size from HX.out.size)).below ((Below.refl w1.heap.size w1).alloc (Nat.le_refl _) (.cells #[.int .i64 x.lba, .slice Ax x.reads.length Cx, .int .i64 x.writer] 39))
          have hS := Lib.hid (show SlR (w1.alloc (.cells #[.int .i64 x.lba, .slice Ax x.reads.length Cx, .int .i64 x.writer] 39)) (fun b => noM b ∨ r1.ownBlock = some b) (.slice (some ⟨w1.heap.size, 0, none⟩) 1 1) [x] from
            SlR.one hblk ⟨(.slice Ax x.reads.length Cx), rfl, HXA.out.mono (Keep.own hb3 ho1')⟩ (fun h' => h'.elim (fun h => h) (fun h => by have := ho1.own_lt h; omega)))
          have O3 := Lib.hid ho1'
          have HB3 := Lib.hid hb3
          have hlk : (l.take i).length + [x].length ≤ 1000000000 := by rw [List.length_take, List.length_singleton]; omega
          have hlk2 : (l.take i ++ [x]).length + (l.drop (i)).length ≤ 1000000000 := by rw [List.length_append, List.length_take, List.length_drop, List.length_singleton]; omega
          clear ho1 hB1 hb3 hblk ho1' hT1
          go_wp2_with (at_builtin; go_must (refine wpList_append_R (α := Lk) (M := noM) (base := w.heap.size) (l := l.take i) (m := [x]) rfl (by rfl) tyL (by rfl) O3.out (by rfl) hS.out hlk HB3.out.size ?_); intro v4 w4 ho4 hg4 hat4; have HB4 := Lib.hid (HB3.out.grown hg4 HB3.out.size (fun b e => O3.out.own_ge e)); have O4 := Lib.hid ho4; have HT2 := Lib.hid (twinL_any (.slice (some ⟨bb, oo + i * 3, none⟩) (l.length - i) (c - i)) (l.drop (i)) w4 _ (fun b => v4.ownBlock = some b) (hd.out.bare.mono (Keep.below HB4.out)) (fun b hb => ho4.own_lt hb) (by rw [List.length_drop]; omega) (fun y hy => HBL.out y (List.mem_of_mem_drop hy))); clear hg4 hat4 ho4 y0 y1 y2)
          ((with_reducible refine HT2.out.mono ?_))
          rintro e w5 ⟨r5, rfl, ho5, hB5⟩
          have hS5 := Lib.hid (OwR.sl' (M := fun b => noM b ∨ v4.ownBlock = some b) (ho5.less (fun b h => h.elim (fun h => h.elim) (fun h => h))) (fun b hb hm => hm.elim (fun h => h) (fun h => by have := ho5.own_ge hb; have := O4.out.own_lt h; omega)))
          have O5 := Lib.hid (O4.out.below hB5)
          have HB5 := Lib.hid (HB4.out.trans (hB5.mono HB4.out.size))
          clear ho5 hB5 HT2
          go_wp2_with (at_builtin; go_must (refine wpList_append_R (α := Lk) (M := noM) (base := w.heap.size) (l := l.take i ++ [x]) (m := l.drop (i)) rfl (by rfl) tyL (by rfl) O5.out (by rfl) hS5.out hlk2 HB5.out.size ?_); intro v6 w6 ho6 hg6 hat6)
          go_ret
          exact ⟨_, rfl, ho6, HB5.out.grown hg6 HB5.out.size (fun b e => O5.out.own_ge e)⟩
      | true =>
        have hlt := his rfl
        simp only [if_true]
        clear his hne
        have hd0 := H.out.drop_ (i := i + 1) (by omega)
        rw [show Rp.sz Lk = 3 from rfl] at hd0
        have hwr : IntKind.i64.wrap ((i : Int) + 1) = (i : Int) + 1 := by rw [IntKind.wrap_i64]; omega
        have hb1 : (0 : Int) ≤ (i : Int) + 1 := by omega
        have htn : ((i : Int) + 1).toNat = i + 1 := by omega
        have hb2 : (i : Int) + 1 ≤ l.length := by omega
        by_cases hck : c = i + 1
        · subst hck
          have hd := Lib.hid (show SlR w noM (.slice (some ⟨bb, oo, none⟩) 0 0) (l.drop (i + 1)) from by rw [List.drop_eq_nil_of_le (by omega)]; exact ⟨_, 0, [], rfl, Nat.zero_le _, Nat.zero_le _, rfl, fun h => absurd rfl h⟩)
          clear hd0
          go_enter Try.func38, Try.ntmps38
          go_wp2_with fail
          rw [← Hw0.out]
          ((with_reducible refine hT1.out.mono ?_))
          rintro e w1 ⟨r1, rfl, ho1, hB1⟩
          have O1 := Lib.hid ho1
          have HB1 := Lib.hid (HX.out.trans (hB1.mono HX.out.size))
          have y0 := below_cell hB1 X0.out
          have y1 := below_cell hB1 X1.out
          have y2 := below_cell hB1 X2.out
          have hb3 := HB1.out.alloc HB1.out.size (.cells #[.int .i64 x.lba, .slice Ax x.reads.length Cx, .int .i64 x.writer] 39)
          have hblk := Blk.new w1 39 #[.int .i64 x.lba, .slice Ax x.reads.length Cx, .int .i64 x.writer]
          have ho1' := (ho1.mono_base (show w.heap.size ≤ w0.heap.size from HX.out.size)).below ((Below.refl w1.heap.size w1).alloc (Nat.le_refl _) (.cells #[.int .i64 x.lba, .slice Ax x.reads.length Cx, .int .i64 x.writer] 39))
          have hS := Lib.hid (show SlR (w1.alloc (.cells #[.int .i64 x.lba, .slice Ax x.reads.length Cx, .int .i64 x.writer] 39)) (fun b => noM b ∨ r1.ownBlock = some b) (.slice (some ⟨w1.heap.size, 0, none⟩) 1 1) [x] from
            SlR.one hblk ⟨(.slice Ax x.reads.length Cx), rfl, HXA.out.mono (Keep.own hb3 ho1')⟩ (fun h' => h'.elim (fun h => h) (fun h => by have := ho1.own_lt h; omega)))
          have O3 := Lib.hid ho1'
          have HB3 := Lib.hid hb3
          have hlk : (l.take i).length + [x].length ≤ 1000000000 := by rw [List.length_take, List.length_singleton]; omega
          have hlk2 : (l.take i ++ [x]).length + (l.drop (i + 1)).length ≤ 1000000000 := by rw [List.length_append, List.length_take, List.length_drop, List.length_singleton]; omega
          clear ho1 hB1 hb3 hblk ho1' hT1
          go_wp2_with (at_builtin; go_must (refine wpList_append_R (α := Lk) (M := noM) (base := w.heap.size) (l := l.take i) (m := [x]) rfl (by rfl) tyL (by rfl) O3.out (by rfl) hS.out hlk HB3.out.size ?_); intro v4 w4 ho4 hg4 hat4; have HB4 := Lib.hid (HB3.out.grown hg4 HB3.out.size (fun b e => O3.out.own_ge e)); have O4 := Lib.hid ho4; have HT2 := Lib.hid (twinL_any (.slice (some ⟨bb, oo, none⟩) 0 0) (l.drop (i + 1)) w4 _ (fun b => v4.ownBlock = some b) (hd.out.bare.mono (Keep.below HB4.out)) (fun b hb => ho4.own_lt hb) (by rw [List.length_drop]; omega) (fun y hy => HBL.out y (List.mem_of_mem_drop hy))); clear hg4 hat4 ho4 y0 y1 y2)
          ((with_reducible refine HT2.out.mono ?_))
          rintro e w5 ⟨r5, rfl, ho5, hB5⟩
          have hS5 := Lib.hid (OwR.sl' (M := fun b => noM b ∨ v4.ownBlock = some b) (ho5.less (fun b h => h.elim (fun h => h.elim) (fun h => h))) (fun b hb hm => hm.elim (fun h => h) (fun h => by have := ho5.own_ge hb; have := O4.out.own_lt h; omega)))
          have O5 := Lib.hid (O4.out.below hB5)
          have HB5 := Lib.hid (HB4.out.trans (hB5.mono HB4.out.size))
          clear ho5 hB5 HT2
          go_wp2_with (at_builtin; go_must (refine wpList_append_R (α := Lk) (M := noM) (base := w.heap.size) (l := l.take i ++ [x]) (m := l.drop (i + 1)) rfl (by rfl) tyL (by rfl) O5.out (by rfl) hS5.out hlk2 HB5.out.size ?_); intro v6 w6 ho6 hg6 hat6)
          go_ret
          exact ⟨_, rfl, ho6, HB5.out.grown hg6 HB5.out.size (fun b e => O5.out.own_ge e)⟩
        · rw [if_neg hck] at hd0
          have hd := Lib.hid hd0
          clear hd0
          go_enter Try.func38, Try.ntmps38
          go_wp2_with fail
          rw [← Hw0.out]
          ((with_reducible refine hT1.out.mono ?_))
          rintro e w1 ⟨r1, rfl, ho1, hB1⟩
          have O1 := Lib.hid ho1
          have HB1 := Lib.hid (HX.out.trans (hB1.mono HX.out.size))
          have y0 := below_cell hB1 X0.out
          have y1 := below_cell hB1 X1.out
          have y2 := below_cell hB1 X2.out
          have hb3 := HB1.out.alloc HB1.out.size (.cells #[.int .i64 x.lba, .slice Ax x.reads.length Cx, .int .i64 x.writer] 39)
          have hblk := Blk.new w1 39 #[.int .i64 x.lba, .slice Ax x.reads.length Cx, .int .i64 x.writer]
          have ho1' := (ho1.mono_base (show w.heap.size ≤ w0.heap.size from HX.out.size)).below ((Below.refl w1.heap.size w1).alloc (Nat.le_refl _) (.cells #[.int .i64 x.lba, .slice Ax x.reads.length Cx, .int .i64 x.writer] 39))
          have hS := Lib.hid (show SlR (w1.alloc (.cells #[.int .i64 x.lba, .slice Ax x.reads.length Cx, .int .i64 x.writer] 39)) (fun b => noM b ∨ r1.ownBlock = some b) (.slice (some ⟨w1.heap.size, 0, none⟩) 1 1) [x] from
            SlR.one hblk ⟨(.slice Ax x.reads.length Cx), rfl, HXA.out.mono (Keep.own hb3 ho1')⟩ (fun h' => h'.elim (fun h => h) (fun h => by have := ho1.own_lt h; omega)))
          have O3 := Lib.hid ho1'
          have HB3 := Lib.hid hb3
          have hlk : (l.take i).length + [x].length ≤ 1000000000 := by rw [List.length_take, List.length_singleton]; omega
          have hlk2 : (l.take i ++ [x]).length + (l.drop (i + 1)).length ≤ 1000000000 := by rw [List.length_append, List.length_take, List.length_drop, List.length_singleton]; omega
          clear ho1 hB1 hb3 hblk ho1' hT1
          go_wp2_with (at_builtin; go_must (refine wpList_append_R (α := Lk) (M := noM) (base := w.heap.size) (l := l.take i) (m := [x]) rfl (by rfl) tyL (by rfl) O3.out (by rfl) hS.out hlk HB3.out.size ?_); intro v4 w4 ho4 hg4 hat4; have HB4 := Lib.hid (HB3.out.grown hg4 HB3.out.size (fun b e => O3.out.own_ge e)); have O4 := Lib.hid ho4; have HT2 := Lib.hid (twinL_any (.slice (some ⟨bb, oo + (i + 1) * 3, none⟩) (l.length - (i + 1)) (c - (i + 1))) (l.drop (i + 1)) w4 _ (fun b => v4.ownBlock = some b) (hd.out.bare.mono (Keep.below HB4.out)) (fun b hb => ho4.own_lt hb) (by rw [List.length_drop]; omega) (fun y hy => HBL.out y (List.mem_of_mem_drop hy))); clear hg4 hat4 ho4 y0 y1 y2)
          ((with_reducible refine HT2.out.mono ?_))
          rintro e w5 ⟨r5, rfl, ho5, hB5⟩
          have hS5 := Lib.hid (OwR.sl' (M := fun b => noM b ∨ v4.ownBlock = some b) (ho5.less (fun b h => h.elim (fun h => h.elim) (fun h => h))) (fun b hb hm => hm.elim (fun h => h) (fun h => by have := ho5.own_ge hb; have := O4.out.own_lt h; omega)))
          have O5 := Lib.hid (O4.out.below hB5)
          have HB5 := Lib.hid (HB4.out.trans (hB5.mono HB4.out.size))
          clear ho5 hB5 HT2
          go_wp2_with (at_builtin; go_must (refine wpList_append_R (α := Lk) (M := noM) (base := w.heap.size) (l := l.take i ++ [x]) (m := l.drop (i + 1)) rfl (by rfl) tyL (by rfl) O5.out (by rfl) hS5.out hlk2 HB5.out.size ?_); intro v6 w6 ho6 hg6 hat6)
          go_ret
          exact ⟨_, rfl, ho6, HB5.out.grown hg6 HB5.out.size (fun b e => O5.out.own_ge e)⟩
end Go.Proofs.Ytombdkdidnoomaa
