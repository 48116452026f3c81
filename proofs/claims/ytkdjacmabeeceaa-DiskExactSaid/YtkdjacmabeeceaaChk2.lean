import Derived.Test.YtkdjacmabeeceaaChk
namespace Go.Proofs.Ytkdjacmabeeceaa
open Go.RowKit

theorem any_take_succ {α : Type} (p : α → Bool) (l : List α) (k : Nat) (hk : k < l.length) : (l.take (k + 1)).any p = ((l.take k).any p || p l[k]) := by
  rw [List.take_succ_eq_append_getElem hk, List.any_append]; simp
theorem any_of {α : Type} (p : α → Bool) (l : List α) (k : Nat) (hk : k < l.length) (h : p l[k] = true) : l.any p = true := List.any_eq_true.2 ⟨l[k], List.getElem_mem hk, h⟩

theorem not_any_take {α : Type} (p : α → Bool) (l : List α) (h : (l.take l.length).any p = false) : ¬ l.any p = true := by rw [List.take_length] at h; rw [h]; decide

set_option maxHeartbeats 400000 in
theorem check1_any (v : Value) (c : Cel) (w : World) (M : Ms) (h : Rv w M v c) :
    Calls Try.prog 43 #[v] w fun e w' => e = .returned (.bool (!cellB c)) ∧ Below w.heap.size w w' := by
  obtain ⟨b, o, rfl, hb, ho⟩ := rv_cel.1 h
  have hc := fun w' (hw : Below w.heap.size w w') => cell_any _ c w' M (h.below hw)
  have Hc := Lib.hid hc
  have hB := Lib.hid ((Below.refl w.heap.size w).alloc (Nat.le_refl _) (.cells #[Value.int .i64 c.state, b, o] 47))
  clear hb ho hc h
  go_enter Try.func43, Try.ntmps43
  go_wp2_with (go_at_call 44; go_must (refine (Hc.out _ hB.out).mono ?_); rintro e w1 ⟨rfl, hB1⟩)
  go_ret
  exact ⟨rfl, hB.out.trans (hB1.mono (by simp))⟩

set_option maxHeartbeats 1000000 in
theorem indexC_any (v : Value) (l : List Cel) (w : World) (M : Ms) (h : SlR w M v l) (hl : l.length ≤ 1000000000) :
    Calls Try.prog 54 #[v, .func (.func 43) #[] #[]] w fun e w' => ∃ k : Int, e = .returned (.int .i64 k) ∧ (0 ≤ k ↔ l.any (fun c => !cellB c) = true) ∧ Below w.heap.size w w' := by
  obtain ⟨a, c, rfl⟩ := h.form
  go_enter Try.func54, Try.ntmps54
  go_wp2
  go_loopw [8] (fun i wr => ∃ k : Nat, k ≤ l.length ∧ i = .int .i64 k ∧ Below w.heap.size w wr ∧ Hid ((l.take k).any (fun c => !cellB c) = false)) (fun i _ => l.length - (intOf i).toNat)
  case atStart => exact ⟨0, Nat.zero_le _, rfl, Below.refl _ _, by simp [Hid]⟩
  case round =>
    obtain ⟨k, hk, rfl, hB, hany⟩ := hrel
    by_cases hlt : k < l.length
    · obtain ⟨b, off, vb, vo, rfl, hm, c0, c1, c2, hb, ho⟩ := cel_at (h.mono (Keep.below hB)) hlt
      have hpx := Lib.hid (check1_any _ l[k] wr M (rv_cel.2 ⟨vb, vo, rfl, hb, ho⟩))
      clear hb ho h
      have hs := any_take_succ (fun c => !cellB c) l k hlt
      rw [hany.out, Bool.false_or] at hs
      cases hpk : !cellB l[k]
      · simp only [hpk] at hs
        have Hs := Lib.hid hs
        rw [hpk] at hpx
        clear hs hpk
        go_wp2_with (go_at_call 43; go_must (refine hpx.out.mono ?_); rintro e w1 ⟨rfl, hB1⟩)
        go_roundw
        case rel => exact ⟨k + 1, by omega, by go_num, hB.trans (hB1.mono hB.size), Hs⟩
        case measure => simp [intOf]; omega
      · have ha := Lib.hid (any_of (fun c => !cellB c) l k hlt hpk)
        rw [hpk] at hpx
        clear hs hpk
        go_wp2_with (go_at_call 43; go_must (refine hpx.out.mono ?_); rintro e w1 ⟨rfl, hB1⟩)
        go_ret
        exact ⟨_, rfl, ⟨fun _ => ha.out, fun _ => by omega⟩, hB.trans (hB1.mono hB.size)⟩
    · have hk' : k = l.length := by omega
      subst hk'
      go_wp2
      go_ret
      exact ⟨_, rfl, ⟨fun h => absurd h (by decide), fun h => absurd h (not_any_take _ l hany.out)⟩, hB⟩
end Go.Proofs.Ytkdjacmabeeceaa
