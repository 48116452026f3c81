/-
The contract of package disk's function New.
-/
import Derived.Test.YtkdjacmabeeceaaCrash
namespace Go.Proofs.Ytkdjacmabeeceaa
open Go.RowKit
attribute [local go_sem ↓] Go.wp_at_zero Go.wp_at_succ

def newT (n : Int) : Dis × Int := if inB n 1 300 then (⟨List.replicate n.toNat ⟨0, [], []⟩, [], 0, -1⟩, 0) else (noD, 1)

theorem mkC (n : Nat) (hn : n ≤ 300) : ∀ w : World, (Instr.makeSlice 24 (.int .i64 (n : Int)) (.int .i64 (n : Int))).run Try.prog w = .ok (.slice (some ⟨w.heap.size, 0, none⟩) n n) (w.alloc (.cells (madeCells #[.int .i64 0, .slice none 0 0, .slice none 0 0] (n * 3)) 47)) := by
  intro w
  have hr := fun i h1 h2 h3 => run_make (P := Try.prog) w 24 47 i (.agg #[.int .i64 0, .slice none 0 0, .slice none 0 0]) (by kernel_rfl) h1 h2 .i64 .i64 n n (by omega) (by omega) h3 (by omega)
  simp only [Int.toNat_natCast] at hr
  have hi : ∃ i, Try.prog.info? 47 = some i ∧ i.zero = some (.agg #[.int .i64 0, .slice none 0 0, .slice none 0 0]) ∧ i.size = 3 ∧ i.bytes = 56 := by
    have h : (Try.prog.info? 47).map (fun i => (i.zero, i.size, i.bytes)) = some (some (.agg #[.int .i64 0, .slice none 0 0, .slice none 0 0]), 3, 56) := by kernel_rfl
    cases hp : Try.prog.info? 47 with
    | none => rw [hp] at h; cases h
    | some i => rw [hp] at h; simp only [Option.map_some, Option.some.injEq, Prod.mk.injEq] at h; exact ⟨i, rfl, h.1, h.2.1, h.2.2⟩
  obtain ⟨i, h1, h2, h3, h4⟩ := hi
  have := hr i h1 h2 (by rw [h4]; omega)
  rw [h3] at this
  exact this
theorem madeC_elems (w : World) (M : Ms) (n : Nat) : Elems (Rp.sz Cel) (Rp.E w M) (madeCells #[.int .i64 0, .slice none 0 0, .slice none 0 0] (n * 3)).toList (List.replicate n (⟨0, [], []⟩ : Cel)) := by
  refine Elems.of_get (by simp [madeCells, Rp.sz]) fun i x hx => ?_
  obtain ⟨hi, rfl⟩ : i < n ∧ x = ⟨0, [], []⟩ := by
    rw [List.getElem?_replicate] at hx
    split at hx
    · exact ⟨‹_›, by injection hx with hx; exact hx.symm⟩
    · cases hx
  refine ⟨[.int .i64 0, .slice none 0 0, .slice none 0 0], rfl, ⟨_, _, rfl, sl_nil _ _ _ (Nat.zero_le _), sl_nil _ _ _ (Nat.zero_le _)⟩, fun j hj => ?_⟩
  simp only [Rp.sz] at hj ⊢
  have hlt : i * 3 + j < n * 3 := by omega
  rw [Array.getElem?_toList, madeCells, Array.getElem?_map, Array.getElem?_range, if_pos hlt, Option.map_some, show (#[Value.int .i64 0, .slice none 0 0, .slice none 0 0] : Array Value).size = 3 from rfl, Nat.mul_add_mod' i 3 j]
  rcases (show j = 0 ∨ j = 1 ∨ j = 2 by omega) with rfl | rfl | rfl <;> rfl

set_option maxRecDepth 100000 in
set_option maxHeartbeats 4000000 in
theorem tnew_any (n : Int) (w : World) (M : Ms) (hM : MOk w M) :
    Calls Try.prog 10 #[.int .i64 n] w fun e w' => ∃ r, e = .returned (.tuple #[r, .int .i64 (newT n).2]) ∧ Rv w' M r (newT n).1 ∧ Below w.heap.size w w' := by
  have hin := Lib.hid (in_any n 1 300)
  cases hA : inB n 1 300
  · have hR := Lib.hid (show newT n = (noD, 1) by simp [newT, hA])
    rw [hA] at hin
    clear hA
    go_enter Try.func10, Try.ntmps10
    go_wp2_with (go_at_call 32; refine (hin.out _).mono ?_; rintro e w' ⟨rfl, rfl⟩)
    have x3 := (Below.refl w.heap.size w).alloc (Nat.le_refl _) (.cells #[.slice none 0 0, .slice none 0 0, .int .i64 0, .int .i64 0] 27)
    refine bodyPost_ret (v := .tuple #[.agg #[.slice none 0 0, .slice none 0 0, .int .i64 0, .int .i64 0], .int .i64 1]) (by simp [results, Try.results10, go_sem]) rfl ?_
    rw [hR.out]
    exact ⟨_, rfl, rv_noD _ _, x3⟩
  · have hnn : 1 ≤ n ∧ n ≤ 300 := by simpa [inB] using hA
    obtain ⟨m, rfl⟩ := Int.eq_ofNat_of_zero_le (show 0 ≤ n by omega)
    have hR := Lib.hid (show newT m = (⟨List.replicate m ⟨0, [], []⟩, [], 0, -1⟩, 0) by simp [newT, hA])
    rw [hA] at hin
    clear hA
    have hmk := mkC m (by omega)
    go_enter Try.func10, Try.ntmps10
    go_wp2_with (go_at_call 32; refine (hin.out _).mono ?_; rintro e w' ⟨rfl, rfl⟩)
    have x3 := ((Below.refl w.heap.size w).alloc (Nat.le_refl _) (.cells #[.slice (some ⟨w.heap.size + 1, 0, none⟩) m m, .slice none 0 0, .int .i64 0, .int .i64 (-1)] 27)).alloc (by simp) (.cells (madeCells #[.int .i64 0, .slice none 0 0, .slice none 0 0] (m * 3)) 47)
    have hb := Blk.new (w.alloc (.cells #[.slice (some ⟨w.heap.size + 1, 0, none⟩) m m, .slice none 0 0, .int .i64 0, .int .i64 (-1)] 27)) 47 (madeCells #[.int .i64 0, .slice none 0 0, .slice none 0 0] (m * 3))
    rw [show (w.alloc (.cells #[.slice (some ⟨w.heap.size + 1, 0, none⟩) m m, .slice none 0 0, .int .i64 0, .int .i64 (-1)] 27)).heap.size = w.heap.size + 1 by simp] at hb
    refine bodyPost_ret (v := .tuple #[.agg #[.slice (some ⟨w.heap.size + 1, 0, none⟩) m m, .slice none 0 0, .int .i64 0, .int .i64 (-1)], .int .i64 0]) (by simp [results, Try.results10, go_sem]) rfl ?_
    rw [hR.out]
    refine ⟨_, rfl, rv_dis.2 ⟨_, _, rfl, ⟨_, m, _, by simp, by simp, by simp [maxLen]; omega, madeC_elems _ _ m, fun _ => ⟨w.heap.size + 1, 0, rfl, fun h => by have := hM _ h; omega, fun j u hu => ?_⟩⟩, ⟨none, 0, [], rfl, by simp, by simp [maxLen], rfl, fun h => absurd rfl h⟩⟩, x3⟩
    rw [Nat.zero_add, hb.cell]
    simpa using hu
end Go.Proofs.Ytkdjacmabeeceaa
