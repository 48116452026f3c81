/-
The contracts of Heavy, and of the reference's Right.
-/
import Derived.Test.YtkdjacmabeeceaaVar
namespace Go.Proofs.Ytkdjacmabeeceaa
open Go.RowKit
attribute [local go_sem ↓] Go.wp_at_zero Go.wp_at_succ

/-- What is known of a disk that Heavy lets pass. -/
def hvF (d : Dis) : Prop := d.cells.length ≤ 310 ∧ d.cache.length ≤ 60 ∧ (∀ c ∈ d.cells, c.bytes.length ≤ 60000 ∧ c.old.length ≤ 60000) ∧ ∀ c ∈ d.cache, c.bytes.length ≤ 60000
theorem take_all {α : Type} {p : α → Prop} {l : List α} {k : Nat} (hk : k < l.length) (h : ∀ x ∈ l.take k, p x) (he : p l[k]) : ∀ x ∈ l.take (k + 1), p x := by
  rw [take_one hk]
  intro x hx
  rcases List.mem_append.1 hx with hx | hx
  · exact h x hx
  · rw [List.mem_singleton] at hx; subst hx; exact he

def hvP (d : Dis) (e : Ending) : Prop := ∃ b, e = .returned (.bool b) ∧ (b = false → hvF d)
set_option maxHeartbeats 4000000 in
theorem heavy_any (v : Value) (d : Dis) (w : World) (M : Ms) (h : Rv w M v d) :
    Calls Try.prog 21 #[v] w fun e w' => hvP d e ∧ Below w.heap.size w w' := by
  obtain ⟨c, k, rfl, hc, hk⟩ := rv_dis.1 h
  obtain ⟨ac, cc, rfl⟩ := hc.form
  obtain ⟨ak, ck, rfl⟩ := hk.form
  have hlm : (d.cells.length : Int) ≤ 9223372036854775807 := by obtain ⟨_, _, _, e, h1, h2, _⟩ := hc; simp [maxLen] at h2; omega
  have hlk : (d.cache.length : Int) ≤ 9223372036854775807 := by obtain ⟨_, _, _, e, h1, h2, _⟩ := hk; simp [maxLen] at h2; omega
  have hB := (Below.refl w.heap.size w).alloc (Nat.le_refl _) (.cells #[.slice ac d.cells.length cc, .slice ak d.cache.length ck, .int .i64 d.reqs, .int .i64 d.left] 27)
  have Hx := Lib.hid (Blk.new w 27 #[.slice ac d.cells.length cc, .slice ak d.cache.length ck, .int .i64 d.reqs, .int .i64 d.left])
  have Hc := Lib.hid (hc.mono (Keep.below hB))
  have Hk := Lib.hid (hk.mono (Keep.below hB))
  have HB := Lib.hid hB
  clear h hc hk hB
  by_cases h1 : d.cells.length ≤ 310
  case neg =>
    have h1' : (310 : Int) < d.cells.length := by omega
    go_enter Try.func21, Try.ntmps21
    go_wp2
    go_ret
    exact ⟨⟨true, rfl, fun h => (Bool.noConfusion h)⟩, HB.out⟩
  by_cases h2 : d.cache.length ≤ 60
  case neg =>
    have h1' : ¬ (310 : Int) < d.cells.length := by omega
    have h2' : (60 : Int) < d.cache.length := by omega
    go_enter Try.func21, Try.ntmps21
    go_wp2
    go_ret
    exact ⟨⟨true, rfl, fun h => (Bool.noConfusion h)⟩, HB.out⟩
  have h1' : ¬ (310 : Int) < d.cells.length := by omega
  have h2' : ¬ (60 : Int) < d.cache.length := by omega
  go_enter Try.func21, Try.ntmps21
  go_wp2
  generalize w.alloc (.cells #[.slice ac d.cells.length cc, .slice ak d.cache.length ck, .int .i64 d.reqs, .int .i64 d.left] 27) = w1 at *
  go_loopw [3, 4] (fun n i wr => ∃ k m : Nat, k ≤ d.cells.length ∧ i = .int .i64 k ∧ n = .int .i64 m ∧ m ≤ k * 200000 ∧ Below w1.heap.size w1 wr ∧ Hid (∀ c ∈ d.cells.take k, min c.bytes.length 100000 ≤ m ∧ min c.old.length 100000 ≤ m)) (fun _ i _ => d.cells.length - (intOf i).toNat)
  case atStart => exact ⟨0, 0, Nat.zero_le _, rfl, rfl, Nat.zero_le _, Below.refl _ _, by simp [Hid]⟩
  case round =>
    obtain ⟨k, m, hk, rfl, rfl, hm, hB, hall⟩ := hrel
    have y1 := (Hx.out.below hB).cell
    by_cases hlt : k < d.cells.length
    · obtain ⟨b1, o1, vb1, vo1, rfl, -, p1, p2, p3, z1, u1⟩ := cel_at (Hc.out.mono (Keep.below hB)) hlt
      obtain ⟨ab1, cb1, rfl⟩ := z1.form
      obtain ⟨ao1, co1, rfl⟩ := u1.form
      have q1 : (d.cells[k].bytes.length : Int) ≤ 9223372036854775807 := by obtain ⟨_, _, _, e, h1, h2, _⟩ := z1; simp [maxLen] at h2; omega
      have q2 : (d.cells[k].old.length : Int) ≤ 9223372036854775807 := by obtain ⟨_, _, _, e, h1, h2, _⟩ := u1; simp [maxLen] at h2; omega
      have hS := Lib.hid (show (∀ i, wr.drew.cell? ⟨w.heap.size, i, none⟩ = #[Value.slice (some ⟨b1, o1, none⟩) d.cells.length cc, .slice ak d.cache.length ck, .int .i64 d.reqs, .int .i64 d.left][i]?) ∧ wr.drew.cell? ⟨b1, o1 + k * 3 + 1, none⟩ = some (.slice ab1 d.cells[k].bytes.length cb1) ∧ wr.drew.cell? ⟨b1, o1 + k * 3 + 2, none⟩ = some (.slice ao1 d.cells[k].old.length co1) from ⟨y1, p2, p3⟩)
      clear p1 p2 p3 z1 u1
      go_wp2_with fail
      clear y1
      refine rg_enter [0, 1, 2, 3, 4, 5, 6, 7, 8, 9, 10, 11, 12, 13, 14, 15, 16, 17, 18] (fun w' => (∀ i, w'.cell? ⟨w.heap.size, i, none⟩ = #[Value.slice (some ⟨b1, o1, none⟩) d.cells.length cc, .slice ak d.cache.length ck, .int .i64 d.reqs, .int .i64 d.left][i]?) ∧ w'.cell? ⟨b1, o1 + k * 3 + 1, none⟩ = some (.slice ab1 d.cells[k].bytes.length cb1) ∧ w'.cell? ⟨b1, o1 + k * 3 + 2, none⟩ = some (.slice ao1 d.cells[k].old.length co1)) (by kernel_rfl) ?_
      obtain ⟨m1, hm1⟩ : ∃ m1 : Nat, (if (100000 : Int) < (d.cells[k].bytes.length : Int) then (100000 : Int) else (d.cells[k].bytes.length : Int)) = m1 := ⟨min d.cells[k].bytes.length 100000, by split <;> omega⟩
      obtain ⟨m2, hm2⟩ : ∃ m2 : Nat, (if (100000 : Int) < (d.cells[k].old.length : Int) then (100000 : Int) else (d.cells[k].old.length : Int)) = m2 := ⟨min d.cells[k].old.length 100000, by split <;> omega⟩
      have e1 : m1 = min d.cells[k].bytes.length 100000 := by split at hm1 <;> omega
      have e2 : m2 = min d.cells[k].old.length 100000 := by split at hm2 <;> omega
      have g1 : m1 ≤ 100000 := by omega
      have g2 : m2 ≤ 100000 := by omega
      have Hm1 := Lib.hid hm1
      have Hm2 := Lib.hid hm2
      have E1 := Lib.hid e1
      have E2 := Lib.hid e2
      clear hm1 hm2 e1 e2
      have hm310 : m ≤ 62000000 := by omega
      apply rg_take 0 rfl (by kernel_rfl) (fun _ _ _ h => h) (hS.out) rfl
      · (rintro W ⟨s0, s1, s2⟩; go_simp; try rfl)
      · (go_simp; try rfl)
      apply rg_take 1 rfl (by kernel_rfl) (fun _ _ _ h => h) (hS.out) rfl
      · (rintro W ⟨s0, s1, s2⟩; go_simp; try rfl)
      · (go_simp; try rfl)
      apply rg_take 2 rfl (by kernel_rfl) (fun _ _ _ h => h) (hS.out) rfl
      · (rintro W ⟨s0, s1, s2⟩; go_simp; try rfl)
      · (go_simp; try rfl)
      apply rg_take 3 rfl (by kernel_rfl) (fun _ _ _ h => h) (hS.out) rfl
      · (rintro W ⟨s0, s1, s2⟩; go_simp; try rfl)
      · (go_simp; try rfl)
      apply rg_take 4 rfl (by kernel_rfl) (fun _ _ _ h => h) (hS.out) rfl
      · (rintro W ⟨s0, s1, s2⟩; go_simp; try rfl)
      · (go_simp; try rfl)
      apply rg_take 5 rfl (by kernel_rfl) (fun _ _ _ h => h) (hS.out) rfl
      · (rintro W ⟨s0, s1, s2⟩; go_simp; try rfl)
      · (go_simp; try rfl)
      apply rg_take 6 rfl (by kernel_rfl) (fun _ _ _ h => h) (hS.out) rfl
      · (rintro W ⟨s0, s1, s2⟩; go_simp; try rfl)
      · (go_simp; try rfl)
      apply rg_take 7 rfl (by kernel_rfl) (fun _ _ _ h => h) (hS.out) rfl
      · (rintro W ⟨s0, s1, s2⟩; go_simp; try rfl)
      · (go_simp; try rfl)
      apply rg_take 8 rfl (by kernel_rfl) (fun _ _ _ h => h) (hS.out) rfl
      · (rintro W ⟨s0, s1, s2⟩; go_simp; try rfl)
      · (go_simp; try rfl)
      rw [Hm1.out]
      apply rg_take 9 rfl (by kernel_rfl) (fun _ _ _ h => h) (hS.out) rfl
      · (rintro W ⟨s0, s1, s2⟩; go_simp; try rfl)
      · (go_simp; try rfl)
      apply rg_take 10 rfl (by kernel_rfl) (fun _ _ _ h => h) (hS.out) rfl
      · (rintro W ⟨s0, s1, s2⟩; go_simp; try rfl)
      · (go_simp; try rfl)
      apply rg_take 11 rfl (by kernel_rfl) (fun _ _ _ h => h) (hS.out) rfl
      · (rintro W ⟨s0, s1, s2⟩; go_simp; try rfl)
      · (go_simp; try rfl)
      apply rg_take 12 rfl (by kernel_rfl) (fun _ _ _ h => h) (hS.out) rfl
      · (rintro W ⟨s0, s1, s2⟩; go_simp; try rfl)
      · (go_simp; try rfl)
      apply rg_take 13 rfl (by kernel_rfl) (fun _ _ _ h => h) (hS.out) rfl
      · (rintro W ⟨s0, s1, s2⟩; go_simp; try rfl)
      · (go_simp; try rfl)
      apply rg_take 14 rfl (by kernel_rfl) (fun _ _ _ h => h) (hS.out) rfl
      · (rintro W ⟨s0, s1, s2⟩; go_simp; try rfl)
      · (go_simp; try rfl)
      apply rg_take 15 rfl (by kernel_rfl) (fun _ _ _ h => h) (hS.out) rfl
      · (rintro W ⟨s0, s1, s2⟩; go_simp; try rfl)
      · (go_simp; try rfl)
      apply rg_take 16 rfl (by kernel_rfl) (fun _ _ _ h => h) (hS.out) rfl
      · (rintro W ⟨s0, s1, s2⟩; go_simp; try rfl)
      · (go_simp; try rfl)
      apply rg_take 17 rfl (by kernel_rfl) (fun _ _ _ h => h) (hS.out) rfl
      · (rintro W ⟨s0, s1, s2⟩; go_simp; try rfl)
      · (go_simp; try rfl)
      rw [Hm2.out]
      apply rg_take 18 rfl (by kernel_rfl) (fun _ _ _ h => h) (hS.out) rfl
      · (rintro W ⟨s0, s1, s2⟩; go_simp; try rfl)
      · (go_simp; try rfl)
      apply rg_pure 19 rfl (by kernel_rfl) (fun _ _ _ h => h) rfl
      · (intro W; go_simp; try rfl)
      · (go_simp; try rfl)
      refine rg_done (by kernel_rfl) ?_
      go_wp2
      go_roundw
      case rel => exact ⟨k + 1, m + m1 + m2, by omega, by go_num, by simp only [IntKind.wrap_i64, Value.int.injEq, true_and]; omega, by omega, hB.drew, Lib.hid (take_all hlt (fun x hx => by have := hall.out x hx; omega) (by have a1 := E1.out; have a2 := E2.out; omega))⟩
      case measure => simp [intOf]; omega
    · obtain rfl : k = d.cells.length := by omega
      have hall' : ∀ c ∈ d.cells, min c.bytes.length 100000 ≤ m ∧ min c.old.length 100000 ≤ m := by have := hall.out; rwa [List.take_length] at this
      have Hall := Lib.hid hall'
      have hm310 : m ≤ 62000000 := by omega
      clear hall hall'
      go_wp2
      clear y1
      have J := Lib.hid hB
      go_loopw [3, 5] (fun n i wr => ∃ k m' : Nat, k ≤ d.cache.length ∧ i = .int .i64 k ∧ n = .int .i64 m' ∧ m ≤ m' ∧ m' ≤ m + k * 100000 ∧ Below w1.heap.size w1 wr ∧ Hid (∀ c ∈ d.cache.take k, min c.bytes.length 100000 ≤ m')) (fun _ i _ => d.cache.length - (intOf i).toNat)
      case atStart => exact ⟨0, m, Nat.zero_le _, rfl, rfl, Nat.le_refl _, by omega, J.out, by simp [Hid]⟩
      case round =>
        clear J hB
        obtain ⟨k, m', hk, rfl, rfl, hm0, hm', hB, hall⟩ := hrel
        have y1 := (Hx.out.below hB).cell
        by_cases hlt : k < d.cache.length
        · obtain ⟨b1, o1, vb1, rfl, -, p1, p2, z1⟩ := wri_at (Hk.out.mono (Keep.below hB)) hlt
          obtain ⟨ab1, cb1, rfl⟩ := z1.form
          have q1 : (d.cache[k].bytes.length : Int) ≤ 9223372036854775807 := by obtain ⟨_, _, _, e, h1, h2, _⟩ := z1; simp [maxLen] at h2; omega
          have hm6 : m' ≤ 70000000 := by omega
          by_cases hbig : (100000 : Int) < (d.cache[k].bytes.length : Int)
          · go_wp2
            go_roundw
            case rel => exact ⟨k + 1, m' + 100000, by omega, by go_num, by go_num, by omega, by omega, hB, Lib.hid (take_all hlt (fun x hx => by have := hall.out x hx; omega) (by omega))⟩
            case measure => simp [intOf]; omega
          · go_wp2
            go_roundw
            case rel => exact ⟨k + 1, m' + d.cache[k].bytes.length, by omega, by go_num, by go_num, by omega, by omega, hB, Lib.hid (take_all hlt (fun x hx => by have := hall.out x hx; omega) (by omega))⟩
            case measure => simp [intOf]; omega
        · obtain rfl : k = d.cache.length := by omega
          have hall' : ∀ c ∈ d.cache, min c.bytes.length 100000 ≤ m' := by have := hall.out; rwa [List.take_length] at this
          go_wp2
          go_ret
          refine ⟨⟨_, rfl, fun hf => ?_⟩, ?_⟩
          · have hle : m' ≤ 60000 := by simp at hf; omega
            exact ⟨h1, h2, fun c hc => by have := Hall.out c hc; omega, fun c hc => by have := hall' c hc; omega⟩
          · exact HB.out.trans (hB.mono HB.out.size)
end Go.Proofs.Ytkdjacmabeeceaa
