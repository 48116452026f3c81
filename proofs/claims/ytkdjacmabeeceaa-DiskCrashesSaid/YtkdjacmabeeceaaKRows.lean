/-
The contract of package casematekeep's TwinRows.
-/
import Derived.Test.YtkdjacmabeeceaaVar
namespace Go.Proofs.Ytkdjacmabeeceaa
open Go.RowKit
attribute [local go_sem ↓] Go.wp_at_zero Go.wp_at_succ

theorem ty31 : SlT Try.prog 31 32 (List UInt8) := ⟨Try.underlying31, .slice none 0 0, 1, 24, by kernel_rfl, rfl, by omega, rfl⟩
theorem rowS_at {w : World} {M : Ms} {a : Option Addr} {n c k : Nat} {l : List (List UInt8)} (h : SlR w M (.slice a n c) l) (hk : k < l.length) :
    ∃ b off A C, a = some ⟨b, off, none⟩ ∧ ¬ M b ∧ w.cell? ⟨b, off + k, none⟩ = some (.slice A l[k].length C) ∧ SlR w M (.slice A l[k].length C) l[k] := by
  obtain ⟨b, off, cs, rfl, hm, ⟨v, rfl, hs⟩, hc⟩ := h.at_ hk
  obtain ⟨A, C, rfl⟩ := hs.form
  have := hc 0 _ rfl
  rw [show Rp.sz (List UInt8) = 1 from rfl, Nat.mul_one, Nat.add_zero] at this
  exact ⟨b, off, A, C, rfl, hm, this, hs⟩

theorem Keep.ownGe {α : Type} [Rp α] {w w' : World} {M : Ms} {e : TypeId} {v : Value} {l : List α} (hB : Below w.heap.size w w') (hO : OwR w' M w.heap.size e v l) : Keep w M w' (fun b => M b ∨ v.ownBlock = some b) := fun b hb hm =>
  ⟨fun h' => h'.elim hm (fun h => by have := hO.own_ge h; omega), hB.block b hb⟩
theorem MOk.own {α : Type} [Rp α] {w : World} {M : Ms} {base : Nat} {e : TypeId} {v : Value} {l : List α} (hM : MOk w M) (hO : OwR w M base e v l) : MOk w (fun b => M b ∨ v.ownBlock = some b) := fun b h => h.elim (hM b) hO.own_lt

set_option maxHeartbeats 2000000 in
theorem trows_any (v : Value) (l : List (List UInt8)) (w : World) (M : Ms) (h : SlR w M v l) (hM : MOk w M) (hl : l.length ≤ 1000000000) (hb : ∀ x ∈ l, x.length ≤ 1000000000) :
    Calls Try.prog 14 #[v] w fun e w' => ∃ r, e = .returned r ∧ OwR w' M w.heap.size 32 r l ∧ Below w.heap.size w w' := by
  obtain ⟨a, c, rfl⟩ := h.form
  have H := Lib.hid h
  have hM' := Lib.hid hM
  clear h hM
  go_enter Try.func14, Try.ntmps14
  go_wp2
  go_loopw [3, 4] (fun o i wr => ∃ k : Nat, k ≤ l.length ∧ i = .int .i64 k ∧ Below w.heap.size w wr ∧ Hid (OwR wr M w.heap.size 32 o (l.take k))) (fun _ i _ => l.length - (intOf i).toNat)
  case atStart => exact ⟨0, Nat.zero_le _, rfl, Below.refl _ _, Lib.hid (OwR.nil _ _ _ _)⟩
  case round =>
    obtain ⟨k, hk, rfl, hB, hO⟩ := hrel
    have HB := Lib.hid hB
    by_cases hlt : k < l.length
    · obtain ⟨b1, o1, A1, C1, rfl, -, x1, z1⟩ := rowS_at (H.out.mono (Keep.ownGe hB hO.out)) hlt
      have Z1 := Lib.hid z1
      have hok := Lib.hid ((hM'.out.below hB.size).own hO.out)
      have hbk := Lib.hid (hb l[k] (List.getElem_mem hlt))
      clear z1 hB
      go_wp2_with fail
      clear x1
      refine (twin_any _ l[k] wr _ (rv_list.2 Z1.out) hok.out hbk.out).mono ?_
      rintro e w2 ⟨r2, rfl, hr2, hB2⟩
      have V2 := Lib.hid (rv_list.1 hr2)
      obtain ⟨A2, C2, rfl⟩ := V2.out.form
      have O2 := Lib.hid (hO.out.below hB2)
      have hok2 := Lib.hid (hok.out.below hB2.size)
      have HB2 := Lib.hid (HB.out.trans (hB2.mono HB.out.size))
      clear hr2 hB2
      have hB3 := (Below.refl w2.heap.size w2).alloc (Nat.le_refl _) (.cells #[.slice A2 l[k].length C2] 32)
      have hblk := Blk.new w2 32 #[.slice A2 l[k].length C2]
      have V3 := Lib.hid (V2.out.mono (Keep.below hB3))
      have O3 := Lib.hid (O2.out.below hB3)
      have HB3 := Lib.hid (HB2.out.trans (hB3.mono HB2.out.size))
      have hge := HB2.out.size
      have hlk : (l.take k).length + 1 ≤ 1000000000 := by rw [List.length_take]; omega
      have hS := Lib.hid (show SlR (w2.alloc (.cells #[.slice A2 l[k].length C2] 32)) (fun b => M b ∨ u3.ownBlock = some b) (.slice (some ⟨w2.heap.size, 0, none⟩) 1 1) [l[k]] from
        SlR.one hblk ⟨_, rfl, V3.out⟩ (fun h' => by have := hok2.out _ h'; omega))
      clear hB3 hblk
      go_wp2_with (at_builtin; go_must (refine wpList_append_R (α := List UInt8) (M := M) (base := w.heap.size) (l := l.take k) (m := [l[k]]) rfl (by rfl) ty31 (by rfl) O3.out (by rfl) hS.out (by simpa using hlk) HB3.out.size ?_); intro v4 w4 ho4 hg4 hat4)
      have hE : l.take k ++ [l[k]] = l.take (k + 1) := by rw [List.take_add_one, List.getElem?_eq_getElem hlt]; rfl
      rw [hE] at ho4
      go_roundw
      case rel => exact ⟨k + 1, by omega, by go_num, HB3.out.grown hg4 HB3.out.size (fun b e => O3.out.own_ge e), Lib.hid ho4⟩
      case measure => simp [intOf]; omega
    · obtain rfl : k = l.length := by omega
      rw [List.take_length] at hO
      go_wp2
      go_ret
      exact ⟨_, rfl, hO.out, HB.out⟩
end Go.Proofs.Ytkdjacmabeeceaa
