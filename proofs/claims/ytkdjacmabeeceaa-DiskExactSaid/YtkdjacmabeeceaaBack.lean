/-
The contract of slices.Backward over a slice of writes: the writes come from the last to the first, till a round says that no more is wanted.
-/
import Derived.RangeFuncNested
import Derived.RangeFuncBound
import Derived.RangeFuncCalls
import Derived.RangeFuncLeaves
import Derived.RangeFuncBox
import Derived.Shelf.Abstract
import Derived.Shelf.RegionOpen
import Derived.OwnWalkIn
import Derived.TacticsInMore
import Derived.LoopNIn
import Derived.LoopIn
import Derived.Test.YtkdjacmabeeceaaClone
namespace Go.Proofs.Ytkdjacmabeeceaa
open Go.RowKit Go.Shelf
attribute [local go_sem] Oper.semAt_some

/-- What has come of n when j have come: n-1, n-2, .. -/
def downTo (n j : Nat) : List Nat := (List.range j).map fun i => n - 1 - i
theorem downTo_succ (n j : Nat) : downTo n (j + 1) = downTo n j ++ [n - 1 - j] := by simp [downTo, List.range_succ]
theorem downTo_length (n j : Nat) : (downTo n j).length = j := by simp [downTo]

set_option maxRecDepth 100000 in
set_option maxHeartbeats 2000000 in
theorem back1_in (F : Fence) (n : Nat) (h7 : F.fn 57) (hro : F.round = none) (hn : 1 ≤ n) (l Bs n₀ b off len cap : Nat) (X Y : Nat → Value) (hlen : len ≤ 1000000000) (hb : b < n₀) (hBn : Bs < n₀) (J Jx : List Nat → World → Prop)
    (hY : ∀ pre x W, J pre W → pre.length < len → x < len → YieldAt F (n - 1) Try.prog l #[.int .i64 (x : Nat), .agg #[X x, Y x]] W fun e W' =>
      (e = .returned (.bool true) ∧ J (pre ++ [x]) W' ∧ Below n₀ W W') ∨ (e = .returned (.bool false) ∧ Jx (pre ++ [x]) W'))
    (W : World) (hBs : W.cell? ⟨Bs, 0, none⟩ = some (.slice (some ⟨b, off, none⟩) len cap)) (hc0 : ∀ j, j < len → W.cell? ⟨b, off + j * 2, none⟩ = some (X j)) (hc1 : ∀ j, j < len → W.cell? ⟨b, off + j * 2 + 1, none⟩ = some (Y j)) (h0 : J [] W) :
    CallsIn F n Try.prog 57 #[.func (.yield l) #[] #[], .pointer (some ⟨Bs, 0, none⟩)] W fun e W' => (∃ v, e = .returned v) ∧
      ((∃ ys, ys = downTo len len ∧ J ys W') ∨ (∃ pre, (∃ k, k ≤ len ∧ pre = downTo len k) ∧ Jx pre W')) := by
  have Hc0 := Lib.hid hc0
  have Hc1 := Lib.hid hc1
  clear hc0 hc1
  refine callsIn_of_wp Try.func57 rfl h7 ?_ hro
  simp only [Try.ntmps57, List.size_toArray, List.length_cons, List.length_nil, Nat.reduceAdd, Nat.reduceSub, Array.replicate_succ, Array.replicate_zero, List.push_toArray, List.append_toArray, List.nil_append, List.cons_append]
  gi_wp2
  gi_loopw [3] (fun i wr => ∃ k : Nat, k ≤ len ∧ i = .int .i64 ((len : Int) - 1 - k) ∧ J (downTo len k) wr ∧ Below n₀ W wr)
    (fun i _ => (intOf i + 1).toNat)
  case atStart => exact ⟨0, Nat.zero_le _, by simp, h0, Below.refl _ _⟩
  case round =>
    obtain ⟨k, hk, rfl, hJs, hnx⟩ := hrel
    by_cases hlt : k < len
    · obtain ⟨m, hmk⟩ : ∃ m, len = k + 1 + m := ⟨len - (k + 1), by omega⟩
      rw [show (len : Int) - 1 - k = (m : Int) by omega]
      obtain ⟨fn, tmps, assign, body, hy, hR⟩ := hY _ m wr hJs (by rw [downTo_length]; exact hlt) (by omega)
      have e0 := (hnx.cell (p := ⟨b, off + m * 2, none⟩) hb).trans (Hc0.out m (by omega))
      have e1 := (hnx.cell (p := ⟨b, off + m * 2 + 1, none⟩) hb).trans (Hc1.out m (by omega))
      have eb := (hnx.cell (p := ⟨Bs, 0, none⟩) hBn).trans hBs
      have hm : (m : Int) < (len : Int) := by omega
      have Hm := Lib.hid hmk
      clear hmk
      gi_wp2
      refine hR.mono ?_
      rintro e W3 (⟨rfl, hJ3, hk3⟩ | ⟨rfl, hJx3⟩)
      · gi_wp2
        go_roundw
        case rel => exact ⟨k + 1, by omega, congrArg (Value.int .i64) (by have := Hm.out; omega), by rw [downTo_succ, show len - 1 - k = m by have := Hm.out; omega]; exact hJ3, hnx.trans hk3⟩
        case measure => simp [intOf]
      · gi_wp2
        refine bodyPost_ret (results_none rfl _ _ _) rfl ?_
        exact ⟨⟨_, rfl⟩, .inr ⟨_, ⟨k + 1, by omega, by rw [downTo_succ, show len - 1 - k = m by have := Hm.out; omega]⟩, hJx3⟩⟩
    · obtain rfl : k = len := by omega
      rw [show ((k : Nat) : Int) - 1 - k = -1 by omega]
      gi_wp2
      go_end0
      exact ⟨⟨_, rfl⟩, .inl ⟨_, rfl, hJs⟩⟩

set_option maxRecDepth 100000 in
set_option maxHeartbeats 1000000 in
/-- .. of no write: no round. -/
theorem back0_in (F : Fence) (n : Nat) (h7 : F.fn 57) (hro : F.round = none) (l Bs : Nat) (a : Option Addr) (cap : Nat) (J : List Nat → World → Prop) (W : World) (hBs : W.cell? ⟨Bs, 0, none⟩ = some (.slice a 0 cap)) (h0 : J [] W) :
    CallsIn F n Try.prog 57 #[.func (.yield l) #[] #[], .pointer (some ⟨Bs, 0, none⟩)] W fun e W' => (∃ v, e = .returned v) ∧ J [] W' := by
  refine callsIn_of_wp Try.func57 rfl h7 ?_ hro
  simp only [Try.ntmps57, List.size_toArray, List.length_cons, List.length_nil, Nat.reduceAdd, Nat.reduceSub, Array.replicate_succ, Array.replicate_zero, List.push_toArray, List.append_toArray, List.nil_append, List.cons_append]
  gi_wp2
  gi_loopw [3] (fun i wr => i = .int .i64 (-1) ∧ J [] wr) (fun _ _ => 0)
  case atStart => exact ⟨rfl, h0⟩
  case round =>
    obtain ⟨rfl, hJs⟩ := hrel
    gi_wp2
    go_end0
    exact ⟨⟨_, rfl⟩, hJs⟩

set_option maxHeartbeats 1000000 in
/-- The slice is boxed; the function value captures the box. -/
theorem back_any (a : Option Addr) (len cap : Nat) (w : World) :
    Calls Try.prog 53 #[.slice a len cap] w fun e w' => e = .returned (.func (.func 57) #[] #[.pointer (some ⟨w.heap.size, 0, none⟩)]) ∧ w.alloc (.cells #[.slice a len cap] 25) = w' := by
  go_enter Try.func53, Try.ntmps53
  go_wp2
  go_ret
  exact ⟨rfl, rfl⟩

/-- The addresses and the bytes' slices as they lie. -/
theorem back_stops (F : Fence) (n : Nat) (h7 : F.fn 57) (hro : F.round = none) (hn : 1 ≤ n) (Bs n₀ : Nat) (a : Option Addr) (len cap : Nat) (X Y : Nat → Value) (hlen : len ≤ 1000000000) (w : World) (hBs : Bs < n₀) (hn₀ : n₀ ≤ w.heap.size)
    (hc : w.cell? ⟨Bs, 0, none⟩ = some (.slice a len cap)) (hI : 0 < len → ∃ b off, a = some ⟨b, off, none⟩ ∧ b < n₀ ∧ ∀ j, j < len → w.cell? ⟨b, off + j * 2, none⟩ = some (X j) ∧ w.cell? ⟨b, off + j * 2 + 1, none⟩ = some (Y j)) :
    SeqStopsK F n Try.prog 57 #[.pointer (some ⟨Bs, 0, none⟩)] (fun x : Fin len => #[Value.int .i64 x.val, .agg #[X x, Y x]]) (Below n₀) (fun ys => ys.map Fin.val = downTo len len) (fun pre => ∃ k, k ≤ len ∧ pre.map Fin.val = downTo len k) len w := fun l J Jx W hW _ _ hY h0 => by
  have hc' := (hW.cell (p := ⟨Bs, 0, none⟩) (by show Bs < _; omega)).trans hc
  rcases Nat.eq_zero_or_pos len with rfl | hp
  · exact (back0_in F n h7 hro l Bs a cap (fun _ W => J [] W) W hc' h0).mono fun e W' ⟨he, hj⟩ => ⟨he, .inl ⟨[], rfl, hj⟩⟩
  · obtain ⟨b, off, rfl, hb, hj⟩ := hI hp
    refine (back1_in F n h7 hro hn l Bs n₀ b off len cap X Y hlen hb hBs (fun pre W => ∃ q : List (Fin len), q.map Fin.val = pre ∧ J q W) (fun pre W => ∃ q : List (Fin len), q.map Fin.val = pre ∧ Jx q W) ?_ W hc' (fun j h => (hW.cell (p := ⟨b, off + j * 2, none⟩) (by show b < _; omega)).trans (hj j h).1) (fun j h => (hW.cell (p := ⟨b, off + j * 2 + 1, none⟩) (by show b < _; omega)).trans (hj j h).2) ⟨[], rfl, h0⟩).mono ?_
    · rintro pre x W1 ⟨q, hq, hJ⟩ hlt hx
      obtain ⟨fn, tmps, assign, body, hy, hR⟩ := hY q ⟨x, hx⟩ W1 hJ (by rw [← hq, List.length_map] at hlt; exact hlt)
      refine ⟨fn, tmps, assign, body, hy, hR.mono ?_⟩
      rintro e W' (⟨he, h1, h2⟩ | ⟨he, h1⟩)
      · exact .inl ⟨he, ⟨_, by simp [hq], h1⟩, h2⟩
      · exact .inr ⟨he, ⟨_, by simp [hq], h1⟩⟩
    · rintro e W' ⟨he, ⟨ys, rfl, q, hq, hJ⟩ | ⟨pre, ⟨k, hk, rfl⟩, q, hq, hJ⟩⟩
      · exact ⟨he, .inl ⟨q, hq, hJ⟩⟩
      · exact ⟨he, .inr ⟨q, ⟨k, hk, hq⟩, hJ⟩⟩
end Go.Proofs.Ytkdjacmabeeceaa
