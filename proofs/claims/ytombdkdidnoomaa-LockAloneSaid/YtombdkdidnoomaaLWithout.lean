/-
The reference's Without; its rising.
-/
import Derived.Test.YtombdkdidnoomaaLTwin
namespace Go.Proofs.Ytombdkdidnoomaa
open Go.RowKit
attribute [local go_sem ↓] Go.wp_at_zero Go.wp_at_succ

def wo (l : List Int) (n : Int) : List Int := l.filter fun x => x != n
theorem wo_take {l : List Int} {n : Int} {k : Nat} (h : k < l.length) : wo (l.take (k + 1)) n = if l[k] = n then wo (l.take k) n else wo (l.take k) n ++ [l[k]] := by
  have e : l.take (k + 1) = l.take k ++ [l[k]] := by rw [List.take_add_one, List.getElem?_eq_getElem h]; rfl
  unfold wo
  rw [e, List.filter_append]
  by_cases hn : l[k] = n
  · rw [if_pos hn]; simp [hn]
  · rw [if_neg hn]; simp [hn]
theorem wo_length (l : List Int) (n : Int) : (wo l n).length ≤ l.length := List.length_filter_le _ _

set_option maxHeartbeats 2000000 in
theorem without_any (v : Value) (l : List Int) (n : Int) (w : World) (Mi M : Ms) (h : SlR w Mi v l) (hM : MOk w M) (hl : l.length ≤ 1000000) :
    Calls Try.prog 36 #[v, .int .i64 n] w fun e w' => ∃ r, e = .returned r ∧ SlR w' M r (wo l n) ∧ Below w.heap.size w w' := by
  obtain ⟨a, c, rfl⟩ := h.form
  have H := Lib.hid h
  have hM' := Lib.hid hM
  clear h hM
  go_enter Try.func36, Try.ntmps36
  go_wp2
  go_loopw [5, 6] (fun o i wr => ∃ k : Nat, k ≤ l.length ∧ i = .int .i64 k ∧ Below w.heap.size w wr ∧ Hid (OwR wr noM w.heap.size 3 o (wo (l.take k) n))) (fun _ i _ => l.length - (intOf i).toNat)
  case atStart => exact ⟨0, Nat.zero_le _, rfl, Below.refl _ _, Lib.hid (OwR.nil _ _ _ _)⟩
  case round =>
    obtain ⟨k, hk, rfl, hB, hO⟩ := hrel
    have HB := Lib.hid hB
    by_cases hlt : k < l.length
    · obtain ⟨b1, o1, rfl, -, x1⟩ := int_at (H.out.mono (Keep.below hB)) hlt
      have hlt' : (k : Int) < l.length := by omega
      clear hB
      by_cases hn : l[k] = n
      · have hq : (l[k] != n) = false := by simp [hn]
        have hE := Lib.hid (show wo (l.take (k + 1)) n = wo (l.take k) n by rw [wo_take hlt, if_pos hn])
        clear hn
        go_wp2
        go_roundw
        case rel => exact ⟨k + 1, by omega, by go_num, HB.out, by rw [hE.out]; exact hO⟩
        case measure => simp [intOf]; omega
      · have hq : (l[k] != n) = true := by simpa using hn
        have hE := Lib.hid (show wo (l.take (k + 1)) n = wo (l.take k) n ++ [l[k]] by rw [wo_take hlt, if_neg hn])
        have hB3 := (Below.refl wr.heap.size wr).alloc (Nat.le_refl _) (.cells #[.int .i64 l[k]] 3)
        have hblk := Blk.new wr 3 #[.int .i64 l[k]]
        have O3 := Lib.hid (hO.out.below hB3)
        have HB3 := Lib.hid (HB.out.trans (hB3.mono HB.out.size))
        have hlk : (wo (l.take k) n).length + 1 ≤ 1000000000 := by have := wo_length (l.take k) n; rw [List.length_take] at this; omega
        have hS := Lib.hid (show SlR (wr.alloc (.cells #[.int .i64 l[k]] 3)) (fun b => noM b ∨ u5.ownBlock = some b) (.slice (some ⟨wr.heap.size, 0, none⟩) 1 1) [l[k]] from
          SlR.one hblk rfl (fun h' => h'.elim (fun h => h) (fun h => by have := hO.out.own_lt h; omega)))
        clear hB3 hblk hn
        go_wp2_with (at_builtin; go_must (refine wpList_append_R (α := Int) (M := noM) (base := w.heap.size) (l := wo (l.take k) n) (m := [l[k]]) rfl (by rfl) tyI (by rfl) O3.out (by rfl) hS.out (by simpa using hlk) HB3.out.size ?_); intro v4 w4 ho4 hg4 hat4)
        rw [← hE.out] at ho4
        go_roundw
        case rel => exact ⟨k + 1, by omega, by go_num, HB3.out.grown hg4 HB3.out.size (fun b e => O3.out.own_ge e), Lib.hid ho4⟩
        case measure => simp [intOf]; omega
    · obtain rfl : k = l.length := by omega
      rw [List.take_length] at hO
      go_wp2
      go_ret
      exact ⟨_, rfl, (OwR.ints (M' := M) hO.out).sl hM'.out.new, HB.out⟩
end Go.Proofs.Ytombdkdidnoomaa
