/-
The law's own part: are all other blocks' locks alike?
-/
import Derived.Test.YtombdkdidnoomaaLAgain0
import Derived.Test.YtombdkdidnoomaaLKeep
import Derived.Test.YtombdkdidnoomaaLTwin
namespace Go.Proofs.Ytombdkdidnoomaa
open Go.RowKit
attribute [local go_sem ↓] Go.wp_at_zero Go.wp_at_succ

def offL (l : List Lk) (t : Int) : List Lk := l.filter fun x => x.lba != t
theorem off_snoc {l : List Lk} {t : Int} {k : Nat} (h : k < l.length) : offL (l.take (k + 1)) t = if l[k].lba = t then offL (l.take k) t else offL (l.take k) t ++ [l[k]] := by
  have e : l.take (k + 1) = l.take k ++ [l[k]] := by rw [List.take_add_one, List.getElem?_eq_getElem h]; rfl
  unfold offL
  rw [e, List.filter_append]
  by_cases hn : l[k].lba = t
  · rw [if_pos hn]; simp [hn]
  · rw [if_neg hn]; simp [hn]
theorem off_length (l : List Lk) (t : Int) : (offL l t).length ≤ l.length := List.length_filter_le _ _

set_option maxHeartbeats 8000000 in
theorem apart_any (v1 v2 : Value) (l1 l2 : List Lk) (t : Int) (w : World) (M1 M2 : Ms) (h1 : SlR w M1 v1 l1) (h2 : SlR w M2 v2 l2) (hl1 : l1.length ≤ 1000000) (hl2 : l2.length ≤ 1000000) (hb : ∀ x ∈ l1, x.reads.length ≤ 1000000000) :
    Calls Try.prog 20 #[v1, v2, .int .i64 t] w fun e w' => e = .returned (.bool (decide (offL l1 t = offL l2 t))) ∧ Below w.heap.size w w' := by
  obtain ⟨a1, c1, rfl⟩ := h1.form
  obtain ⟨a2, c2, rfl⟩ := h2.form
  have H1 := Lib.hid h1.bare
  have H2 := Lib.hid h2.bare
  have HBL := Lib.hid hb
  clear h1 h2 hb
  go_enter Try.func20, Try.ntmps20
  go_wp2
  go_loopw [7, 9] (fun o i wr => Below w.heap.size w wr ∧ ∃ k : Nat, k ≤ l1.length ∧ i = .int .i64 k ∧ Hid (OwR wr noM w.heap.size 39 o (offL (l1.take k) t))) (fun _ i _ => l1.length - (intOf i).toNat)
  case atStart => exact ⟨Below.refl _ _, 0, Nat.zero_le _, rfl, Lib.hid (OwR.nil _ _ _ _)⟩
  case round =>
    obtain ⟨hB, k, hk, rfl, hO⟩ := hrel
    have HB := Lib.hid hB
    by_cases hlt : k < l1.length
    · obtain ⟨b1, o1, A1, C1, rfl, -, x1, y1, z1, s1⟩ := lk_at (H1.out.mono (Keep.below hB)) hlt
      have hlt' : (k : Int) < l1.length := by omega
      have HS1 := Lib.hid s1
      clear hB s1
      by_cases hn : l1[k].lba = t
      · have hq : (l1[k].lba != t) = false := by simp [hn]
        have hE := Lib.hid (show offL (l1.take (k + 1)) t = offL (l1.take k) t by rw [off_snoc hlt, if_pos hn])
        clear hn
        go_wp2
        go_roundw
        case rel => exact ⟨HB.out, k + 1, by omega, by go_num, by rw [hE.out]; exact hO⟩
        case measure => simp [intOf]; omega
      · have hq : (l1[k].lba != t) = true := by simpa using hn
        have hE := Lib.hid (show offL (l1.take (k + 1)) t = offL (l1.take k) t ++ [l1[k]] by rw [off_snoc hlt, if_neg hn])
        have hB3 := (Below.refl wr.heap.size wr).alloc (Nat.le_refl _) (.cells #[.int .i64 l1[k].lba, .slice A1 l1[k].reads.length C1, .int .i64 l1[k].writer] 39)
        have hblk := Blk.new wr 39 #[.int .i64 l1[k].lba, .slice A1 l1[k].reads.length C1, .int .i64 l1[k].writer]
        have O3 := Lib.hid (hO.out.below hB3)
        have HB3 := Lib.hid (HB.out.trans (hB3.mono HB.out.size))
        have hlk : (offL (l1.take k) t).length + [l1[k]].length ≤ 1000000000 := by have := off_length (l1.take k) t; rw [List.length_take] at this; rw [List.length_singleton]; omega
        -- the readers were there: they lie in no row of the call's own
        have hsr : SlR w noM (.slice A1 l1[k].reads.length C1) l1[k].reads := by
          obtain ⟨b', o', A', C', e', -, x', y', z', s'⟩ := lk_at H1.out hlt
          simp only [Option.some.injEq, Addr.mk.injEq, and_true] at e'
          obtain ⟨rfl, rfl⟩ := e'
          have e2 := (below_cell HB.out y').symm.trans y1
          injection e2 with e2
          rw [← e2]; exact s'
        have hS := Lib.hid (show SlR (wr.alloc (.cells #[.int .i64 l1[k].lba, .slice A1 l1[k].reads.length C1, .int .i64 l1[k].writer] 39)) (fun b => noM b ∨ u7.ownBlock = some b) (.slice (some ⟨wr.heap.size, 0, none⟩) 1 1) [l1[k]] from
          SlR.one hblk ⟨_, rfl, hsr.mono (fun b hb _ => ⟨fun h => h.elim (fun h => h) (fun h => by have := hO.out.own_ge h; omega), HB3.out.block b hb⟩)⟩ (fun h' => h'.elim (fun h => h) (fun h => by have := hO.out.own_lt h; omega)))
        clear hB3 hblk hn hsr
        go_wp2_with (at_builtin; go_must (refine wpList_append_R (α := Lk) (M := noM) (base := w.heap.size) (l := offL (l1.take k) t) (m := [l1[k]]) rfl (by rfl) tyL (by rfl) O3.out (by rfl) hS.out hlk HB3.out.size ?_); intro v4 w4 ho4 hg4 hat4)
        rw [← hE.out] at ho4
        have hfin := Lib.hid (And.intro (HB3.out.grown hg4 HB3.out.size (fun b e => O3.out.own_ge e)) ho4)
        clear ho4 hg4 hat4
        go_roundw
        case rel => exact ⟨hfin.out.1, k + 1, by omega, by go_num, Lib.hid hfin.out.2⟩
        case measure => simp [intOf]; omega
    · obtain rfl : k = l1.length := by omega
      rw [List.take_length] at hO
      obtain ⟨Ao, Co, rfl⟩ := hO.out.form
      have hOl : (offL l1 t).length ≤ 1000000 := by have := off_length l1 t; omega
      have HX := Lib.hid (hO.out.sl (M := noM) (fun b _ h => h))
      clear hO hB
      obtain ⟨wq, hwq⟩ : ∃ wq, wq = wr := ⟨_, rfl⟩
      rw [← hwq] at HB HX ⊢
      clear hwq
      go_wp2_with fail
      go_loopw [8, 10] (fun o i wr => Below wq.heap.size wq wr ∧ ∃ k : Nat, k ≤ l2.length ∧ i = .int .i64 k ∧ Hid (OwR wr noM wq.heap.size 39 o (offL (l2.take k) t))) (fun _ i _ => l2.length - (intOf i).toNat)
      case atStart => exact ⟨Below.refl _ _, 0, Nat.zero_le _, rfl, Lib.hid (OwR.nil _ _ _ _)⟩
      case round =>
        obtain ⟨hB, k, hk, rfl, hO⟩ := hrel
        have HB2 := Lib.hid hB
        have HBt := Lib.hid (HB.out.trans (hB.mono HB.out.size))
        by_cases hlt : k < l2.length
        · obtain ⟨b1, o1, A1, C1, rfl, -, x1, y1, z1, s1⟩ := lk_at (H2.out.mono (Keep.below HBt.out)) hlt
          have hlt' : (k : Int) < l2.length := by omega
          clear hB s1
          by_cases hn : l2[k].lba = t
          · have hq : (l2[k].lba != t) = false := by simp [hn]
            have hE := Lib.hid (show offL (l2.take (k + 1)) t = offL (l2.take k) t by rw [off_snoc hlt, if_pos hn])
            clear hn
            go_wp2
            go_roundw
            case rel => exact ⟨HB2.out, k + 1, by omega, by go_num, by rw [hE.out]; exact hO⟩
            case measure => simp [intOf]; omega
          · have hq : (l2[k].lba != t) = true := by simpa using hn
            have hE := Lib.hid (show offL (l2.take (k + 1)) t = offL (l2.take k) t ++ [l2[k]] by rw [off_snoc hlt, if_neg hn])
            have hB3 := (Below.refl wr.heap.size wr).alloc (Nat.le_refl _) (.cells #[.int .i64 l2[k].lba, .slice A1 l2[k].reads.length C1, .int .i64 l2[k].writer] 39)
            have hblk := Blk.new wr 39 #[.int .i64 l2[k].lba, .slice A1 l2[k].reads.length C1, .int .i64 l2[k].writer]
            have O3 := Lib.hid (hO.out.below hB3)
            have HB3 := Lib.hid (HB2.out.trans (hB3.mono HB2.out.size))
            have HB3t := Lib.hid (HBt.out.trans (hB3.mono HBt.out.size))
            have hlk : (offL (l2.take k) t).length + [l2[k]].length ≤ 1000000000 := by have := off_length (l2.take k) t; rw [List.length_take] at this; rw [List.length_singleton]; omega
            have hsr : SlR w noM (.slice A1 l2[k].reads.length C1) l2[k].reads := by
              obtain ⟨b', o', A', C', e', -, x', y', z', s'⟩ := lk_at H2.out hlt
              simp only [Option.some.injEq, Addr.mk.injEq, and_true] at e'
              obtain ⟨rfl, rfl⟩ := e'
              have e2 := (below_cell HBt.out y').symm.trans y1
              injection e2 with e2
              rw [← e2]; exact s'
            have hS := Lib.hid (show SlR (wr.alloc (.cells #[.int .i64 l2[k].lba, .slice A1 l2[k].reads.length C1, .int .i64 l2[k].writer] 39)) (fun b => noM b ∨ u8.ownBlock = some b) (.slice (some ⟨wr.heap.size, 0, none⟩) 1 1) [l2[k]] from
              SlR.one hblk ⟨_, rfl, hsr.mono (fun b hb _ => ⟨fun h => h.elim (fun h => h) (fun h => by have := hO.out.own_ge h; have := HB.out.size; omega), HB3t.out.block b hb⟩)⟩ (fun h' => h'.elim (fun h => h) (fun h => by have := hO.out.own_lt h; omega)))
            clear hB3 hblk hn hsr
            go_wp2_with (at_builtin; go_must (refine wpList_append_R (α := Lk) (M := noM) (base := wq.heap.size) (l := offL (l2.take k) t) (m := [l2[k]]) rfl (by rfl) tyL (by rfl) O3.out (by rfl) hS.out hlk HB3.out.size ?_); intro v4 w4 ho4 hg4 hat4)
            rw [← hE.out] at ho4
            have hfin := Lib.hid (And.intro (HB3.out.grown hg4 HB3.out.size (fun b e => O3.out.own_ge e)) ho4)
            clear ho4 hg4 hat4
            go_roundw
            case rel => exact ⟨hfin.out.1, k + 1, by omega, by go_num, Lib.hid hfin.out.2⟩
            case measure => simp [intOf]; omega
        · obtain rfl : k = l2.length := by omega
          rw [List.take_length] at hO
          obtain ⟨Ap, Cp, rfl⟩ := hO.out.form
          have hc := Lib.hid (locks_any _ _ (offL l1 t) (offL l2 t) wr noM noM (HX.out.mono (Keep.below HB2.out)) (hO.out.sl (fun b _ h => h)) (by omega) (fun x hx => HBL.out x (List.mem_filter.1 hx).1))
          clear hO hB
          go_wp2_with fail
          ((with_reducible refine hc.out.mono ?_); rintro e w5 ⟨rfl, hB5⟩)
          have hfin := Lib.hid (HBt.out.trans (hB5.mono HBt.out.size))
          clear hB5 hc
          go_wp2
          go_ret
          exact ⟨rfl, hfin.out⟩
end Go.Proofs.Ytombdkdidnoomaa
