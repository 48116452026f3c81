/-
slices.Grow of nothing; slices.Concat of two.
-/
import Derived.Test.YtpknhpfbinplgaaRcPack
import Derived.Lib.AppendZeros
import Derived.Deep.LoopGhost
namespace Go.Proofs.Ytpknhpfbinplgaa
open Go.RowKit
attribute [local go_sem ↓] Go.wp_at_zero Go.wp_at_succ

set_option maxRecDepth 100000 in
set_option maxHeartbeats 4000000 in
theorem grow_any (n : Nat) (w : World) (M : Ms) (hn : n ≤ 1000000000) : Calls Try.prog 73 #[.slice none 0 0, .int .i64 n] w fun e w' => ∃ r, e = .returned r ∧ OwR w' M w.heap.size 5 r ([] : List UInt8) ∧ Below w.heap.size w w' := by
  have hn0 : ¬ (n : Int) < 0 := by omega
  by_cases h0 : n = 0
  · subst h0
    clear hn
    go_enter Try.func73, Try.ntmps73
    go_wp2
    go_ret
    exact ⟨_, rfl, OwR.nil _ _ _ _, Below.refl _ _⟩
  · obtain ⟨i0, hi0, hz0, hz1, hz2⟩ := info_parts (show (Try.prog.info? 5).map (fun i => (i.zero, i.size, i.bytes)) = some (some (.int .u8 0), 1, 1) by kernel_rfl)
    have hrz : ∀ ty, _ := fun ty => Lib.run_append_nil_zeros (P := Try.prog) w 24 3 ty 5 i0 _ .i64 .i64 Try.underlying24 Try.underlying3 hi0 hz0 n (by omega) (by omega) (by omega) (by rw [hz2]; omega)
    have hG := grownCap_ge w n 0 5
    have hGm := grownCap_le_maxLen w n 0 5 (by unfold maxLen; omega)
    obtain ⟨G, hGe⟩ : ∃ G, G = grownCap w n 0 5 := ⟨_, rfl⟩
    rw [← hGe] at hG hGm
    simp only [← hGe] at hrz
    obtain ⟨Z, hZ⟩ : ∃ Z, Z = Builtin.zeroCells (Value.int .u8 0).cells n ++ Builtin.zeroCells (Value.int .u8 0).cells (G - n) := ⟨_, rfl⟩
    have hZs : Z.size = G * 1 := by
      rw [hZ, Array.size_append, size_zeroCells, size_zeroCells]
      simp [Value.cells]
      omega
    rw [← hZ] at hrz
    have hO := Lib.hid (show OwR (w.drew.alloc (.cells Z 5)) M w.heap.size 5 (.slice (some ⟨w.heap.size, 0, none⟩) 0 G) ([] : List UInt8) from ⟨[], World.ownsRow_made w.drew Z G (Nat.le_refl _) hGm hZs, rfl⟩)
    have hB := Lib.hid ((below_drew w).trans ((Below.refl w.drew.heap.size w.drew).alloc (Nat.le_refl _) (.cells Z 5)))
    have h0' : (0 : Int) < n := by omega
    unfold maxLen at hGm
    have hGi : (n : Int) ≤ G := by omega
    clear hi0 hz0 hz1 hz2 hZ hZs hGe h0 hn
    go_enter Try.func73, Try.ntmps73
    go_wp2_with (with_reducible refine Lib.wpList_append_run w rfl (.tmp 20) (.tmp 21) _ _ rfl _ _ rfl rfl _ _ (hrz _) ?_)
    go_ret
    exact ⟨_, rfl, hO.out, hB.out⟩
theorem row_at {α : Type} [Rp α] {w : World} {M : Ms} {a : Option Addr} {n c k : Nat} {l : List (List α)} (h : SlR w M (.slice a n c) l) (hk : k < l.length) : ∃ b off A C, a = some ⟨b, off, none⟩ ∧ ¬ M b ∧ w.cell? ⟨b, off + k, none⟩ = some (.slice A l[k].length C) ∧ SlR w M (.slice A l[k].length C) l[k] := by
  obtain ⟨b, off, cs, rfl, hm, he, hc⟩ := h.at_ hk
  obtain ⟨v, rfl, hv⟩ := he
  obtain ⟨A, C, rfl⟩ := hv.form
  refine ⟨b, off, A, C, rfl, hm, ?_, hv⟩
  have := hc 0 _ rfl
  simpa [Rp.sz] using this
theorem Keep.own {α : Type} [Rp α] {w w4 : World} {M : Ms} {e : TypeId} {v : Value} {L : List α} (hb : Below w.heap.size w w4) (ho : OwR w4 M w.heap.size e v L) : Keep w noM w4 (fun b => noM b ∨ v.ownBlock = some b) := fun b hlt _ =>
  ⟨fun h => h.elim (fun h => h) (fun h => by have := ho.own_ge h; omega), hb.block b hlt⟩
theorem flat_step {α : Type} {ls : List (List α)} {k : Nat} (hk : k < ls.length) : (ls.take (k + 1)).flatten = (ls.take k).flatten ++ ls[k] := by
  rw [List.take_add_one, List.getElem?_eq_getElem hk, List.flatten_append]; simp
theorem flat_le {α : Type} {ls : List (List α)} (k : Nat) : (ls.take k).flatten.length ≤ ls.flatten.length := by
  conv => rhs; rw [← List.take_append_drop k ls]
  rw [List.flatten_append, List.length_append]; omega

set_option maxRecDepth 100000 in
set_option maxHeartbeats 8000000 in
theorem concat_any (v : Value) (ls : List (List UInt8)) (w : World) (M Mi : Ms) (h : SlR w Mi v ls) (hl : ls.flatten.length ≤ 1000000000) (hn : ls.length ≤ 1000000) :
    Calls Try.prog 68 #[v] w fun e w' => ∃ r, e = .returned r ∧ OwR w' M w.heap.size 5 r ls.flatten ∧ Below w.heap.size w w' := by
  obtain ⟨a, c, rfl⟩ := h.form
  have H := Lib.hid h.bare
  have HL := Lib.hid hl
  clear h hl
  go_enter Try.func68, Try.ntmps68
  go_wp2
  go_loopg [3, 11] ls.length (fun g s3 s11 wr => ∃ k s : Nat, s11 = .int .i64 k ∧ s3 = .int .i64 s ∧ k ≤ ls.length ∧ ls.length - k ≤ g ∧ Hid (s = (ls.take k).flatten.length) ∧ wr = w)
  case atStart => exact ⟨0, 0, rfl, rfl, Nat.zero_le _, by omega, Lib.hid (by simp), rfl⟩
  case round =>
    obtain ⟨k, s, rfl, rfl, hkl, hg, hs, rfl⟩ := hrel
    by_cases hlt : k < ls.length
    · obtain ⟨b, off, A, C, rfl, -, x1, -⟩ := row_at H.out hlt
      have hlt' : (k : Int) < ls.length := by omega
      have hst := Lib.hid (flat_step hlt)
      have hb : s + ls[k].length ≤ 1000000000 := by
        have h1 := flat_le (ls := ls) (k + 1)
        rw [hst.out, List.length_append, ← hs.out] at h1
        have := HL.out
        omega
      have hw1 : IntKind.i64.wrap ((s : Int) + ls[k].length) = ((s + ls[k].length : Nat) : Int) := by rw [IntKind.wrap_i64]; omega
      have hw0 : ¬ (((s + ls[k].length : Nat) : Int) < 0) := by omega
      go_wp2
      go_roundg (ls.length - (k + 1))
      case measure => omega
      case rel => exact ⟨k + 1, s + ls[k].length, by go_num, by first | rfl | go_num, by omega, by omega, Lib.hid (by rw [hst.out, List.length_append, hs.out]), rfl⟩
    · obtain rfl : k = ls.length := by omega
      have hb : s ≤ 1000000000 := by
        have := hs.out
        rw [List.take_length] at this
        have := HL.out
        omega
      obtain ⟨w0, rfl⟩ : ∃ w0, w0 = wr := ⟨_, rfl⟩
      have hgr := Lib.hid (grow_any s w0 noM hb)
      clear hb hs
      go_wp2_with (go_at_call 73; go_must (with_reducible refine hgr.out.mono ?_); rintro e w2 ⟨r, rfl, ho2, hB2⟩)
      have HO := Lib.hid (And.intro ho2 hB2)
      clear ho2 hB2 hgr
      go_loopg [6, 27] ls.length (fun g s6 s27 w3 => ∃ k : Nat, s27 = .int .i64 k ∧ k ≤ ls.length ∧ ls.length - k ≤ g ∧ Hid (OwR w3 noM w0.heap.size 5 s6 ((ls.take k).flatten) ∧ Below w0.heap.size w0 w3))
      case atStart => exact ⟨0, rfl, Nat.zero_le _, by omega, Lib.hid (by simpa using HO.out)⟩
      case round =>
        obtain ⟨k, rfl, hkl, hg, hI⟩ := hrel
        by_cases hlt : k < ls.length
        · obtain ⟨ho, hB⟩ := hI.out
          obtain ⟨b, off, A, C, rfl, -, x0, x2⟩ := row_at H.out hlt
          have x1 := (Keep.below (M := noM) hB).cell (fun h => h) x0
          have hS := Lib.hid (x2.mono (Keep.own hB ho))
          have O3 := Lib.hid ho
          have HB3 := Lib.hid hB
          have hlt' : (k : Int) < ls.length := by omega
          have hst := Lib.hid (flat_step hlt)
          have hb : ((ls.take k).flatten).length + ls[k].length ≤ 1000000000 := by
            have h1 := flat_le (ls := ls) (k + 1)
            rw [hst.out, List.length_append] at h1
            have := HL.out
            omega
          clear x0 x2 ho hB hI
          go_wp2_with (at_builtin; go_must (refine wpList_append_R (α := UInt8) (M := noM) (base := w0.heap.size) (l := (ls.take k).flatten) (m := ls[k]) rfl (by rfl) tyB (by rfl) O3.out (by rfl) hS.out hb HB3.out.size ?_); intro v4 w4 ho4 hg4 hat4)
          go_roundg (ls.length - (k + 1))
          case measure => omega
          case rel => exact ⟨k + 1, by go_num, by omega, by omega, Lib.hid ⟨by rw [hst.out]; exact ho4, HB3.out.grown hg4 HB3.out.size (fun b e => O3.out.own_ge e)⟩⟩
        · obtain rfl : k = ls.length := by omega
          obtain ⟨ho, hB⟩ := hI.out
          rw [List.take_length] at ho
          have HF := Lib.hid (And.intro (OwR.plain (M' := M) (fun _ _ _ _ _ h => h) ho) hB)
          clear ho hB hI
          go_wp2
          go_ret
          exact ⟨_, rfl, HF.out.1, HF.out.2⟩
end Go.Proofs.Ytpknhpfbinplgaa
