/-
The contracts of Twin and TwinRows, the input's blocks and the kept ones told apart.
-/
import Derived.Test.YtkdjacmabeeceaaKRows
namespace Go.Proofs.Ytkdjacmabeeceaa
open Go.RowKit
attribute [local go_sem ↓] Go.wp_at_zero Go.wp_at_succ

theorem SlR.bare {α : Type} [Rp α] {w : World} {M : Ms} {v : Value} {l : List α} (h : SlR w M v l) : SlR w noM v l := h.mono (Keep.less fun _ h' => h'.elim)
theorem OwR.u8 {w : World} {M M' : Ms} {base : Nat} {e : TypeId} {v : Value} {l : List UInt8} (h : OwR w M base e v l) : OwR w M' base e v l := by
  obtain ⟨xs, ho, he⟩ := h
  exact ⟨xs, ho, he.mono fun cs x _ h => h⟩
set_option maxHeartbeats 400000 in
theorem twin2_any (v : Value) (l : List UInt8) (w : World) (Mi M : Ms) (h : SlR w Mi v l) (hM : MOk w M) (hl : l.length ≤ 1000000000) :
    Calls Try.prog 12 #[v] w fun e w' => ∃ r, e = .returned r ∧ SlR w' M r l ∧ Below w.heap.size w w' := by
  have hs := h.bare
  go_enter Try.func12, Try.ntmps12
  go_wp2_with (at_builtin; go_must (refine wpList_append_R (α := UInt8) (M := noM) (base := w.heap.size) (l := []) (m := l) (v := .slice none 0 0) (u := v) rfl (by rfl) ty32 (by rfl) (OwR.nil _ _ _ _) (by rfl) (hs.mono (Keep.ownNil _ _ _)) (by simpa using hl) (Nat.le_refl _) ?_; intro v1 w1 ho hg hat))
  go_ret
  exact ⟨_, rfl, (OwR.u8 (M' := M) ho).sl hM.new, Below.ofNil hg⟩

set_option maxHeartbeats 2000000 in
theorem trows2_any (v : Value) (l : List (List UInt8)) (w : World) (Mi M : Ms) (h : SlR w Mi v l) (hM : MOk w M) (hl : l.length ≤ 1000000000) (hb : ∀ x ∈ l, x.length ≤ 1000000000) :
    Calls Try.prog 14 #[v] w fun e w' => ∃ r, e = .returned r ∧ OwR w' M w.heap.size 32 r l ∧ Below w.heap.size w w' := by
  obtain ⟨a, c, rfl⟩ := h.form
  have H := Lib.hid h
  have hM' := Lib.hid hM
  clear h hM
  go_enter Try.func14, Try.ntmps14
  go_wp2
  go_loopw [3, 4] (fun o i wr => ∃ k : Nat, k ≤ l.length ∧ i = .int .i64 k ∧ Below w.heap.size w wr ∧ Hid (OwR wr M w.heap.size 32 o (l.take k))) (fun _ i _ => l.length - (intOf i).toNat)
  case atStart => exact ⟨0, Nat.zero_le _, rfl, Below.refl _ _, Lib.hid (OwR.nil _ _ _ _)⟩
  case round =>
    obtain ⟨k, hk, rfl, hB, hO⟩ := hrel
    have HB := Lib.hid hB
    by_cases hlt : k < l.length
    · obtain ⟨b1, o1, A1, C1, rfl, -, x1, z1⟩ := rowS_at (H.out.mono (Keep.below hB)) hlt
      have Z1 := Lib.hid z1
      have hok := Lib.hid ((hM'.out.below hB.size).own hO.out)
      have hbk := Lib.hid (hb l[k] (List.getElem_mem hlt))
      clear z1 hB
      go_wp2_with fail
      clear x1
      refine (twin2_any _ l[k] wr _ _ Z1.out hok.out hbk.out).mono ?_
      rintro e w2 ⟨r2, rfl, hr2, hB2⟩
      have V2 := Lib.hid hr2
      obtain ⟨A2, C2, rfl⟩ := V2.out.form
      have O2 := Lib.hid (hO.out.below hB2)
      have hok2 := Lib.hid (hok.out.below hB2.size)
      have HB2 := Lib.hid (HB.out.trans (hB2.mono HB.out.size))
      clear hr2 hB2
      have hB3 := (Below.refl w2.heap.size w2).alloc (Nat.le_refl _) (.cells #[.slice A2 l[k].length C2] 32)
      have hblk := Blk.new w2 32 #[.slice A2 l[k].length C2]
      have V3 := Lib.hid (V2.out.mono (Keep.below hB3))
      have O3 := Lib.hid (O2.out.below hB3)
      have HB3 := Lib.hid (HB2.out.trans (hB3.mono HB2.out.size))
      have hge := HB2.out.size
      have hlk : (l.take k).length + 1 ≤ 1000000000 := by rw [List.length_take]; omega
      have hS := Lib.hid (show SlR (w2.alloc (.cells #[.slice A2 l[k].length C2] 32)) (fun b => M b ∨ u3.ownBlock = some b) (.slice (some ⟨w2.heap.size, 0, none⟩) 1 1) [l[k]] from
        SlR.one hblk ⟨_, rfl, V3.out⟩ (fun h' => by have := hok2.out _ h'; omega))
      clear hB3 hblk
      go_wp2_with (at_builtin; go_must (refine wpList_append_R (α := List UInt8) (M := M) (base := w.heap.size) (l := l.take k) (m := [l[k]]) rfl (by rfl) ty31 (by rfl) O3.out (by rfl) hS.out (by simpa using hlk) HB3.out.size ?_); intro v4 w4 ho4 hg4 hat4)
      have hE : l.take k ++ [l[k]] = l.take (k + 1) := by rw [List.take_add_one, List.getElem?_eq_getElem hlt]; rfl
      rw [hE] at ho4
      go_roundw
      case rel => exact ⟨k + 1, by omega, by go_num, HB3.out.grown hg4 HB3.out.size (fun b e => O3.out.own_ge e), Lib.hid ho4⟩
      case measure => simp [intOf]; omega
    · obtain rfl : k = l.length := by omega
      rw [List.take_length] at hO
      go_wp2
      go_ret
      exact ⟨_, rfl, hO.out, HB.out⟩
end Go.Proofs.Ytkdjacmabeeceaa
