import Derived.Test.YtkdjacmabeeceaaClone
namespace Go.Proofs.Ytkdjacmabeeceaa
open Go.RowKit

def inB (n lo hi : Int) : Bool := decide (lo ≤ n) && decide (n ≤ hi)
theorem in_any (n lo hi : Int) (w : World) :
    Calls Try.prog 32 #[.int .i64 n, .int .i64 lo, .int .i64 hi] w fun e w' => e = .returned (.bool (inB n lo hi)) ∧ w = w' := by
  go_enter Try.func32, Try.ntmps32
  go_wp2
  all_goals go_ret
  all_goals exact ⟨retB (by simp [inB]; omega), rfl⟩
theorem rin_any (n lo hi : Int) (w : World) :
    Calls Try.prog 39 #[.int .i64 n, .int .i64 lo, .int .i64 hi] w fun e w' => e = .returned (.bool (inB n lo hi)) ∧ w = w' := by
  go_enter Try.func39, Try.ntmps39
  go_wp2
  all_goals go_ret
  all_goals exact ⟨retB (by simp [inB]; omega), rfl⟩

def cellB (c : Cel) : Bool := inB c.state 0 2 && decide (c.bytes.length ≤ 200) && decide (c.old.length ≤ 200)
set_option maxHeartbeats 400000 in
theorem cell_any (v : Value) (c : Cel) (w : World) (M : Ms) (h : Rv w M v c) :
    Calls Try.prog 44 #[v] w fun e w' => e = .returned (.bool (cellB c)) ∧ Below w.heap.size w w' := by
  obtain ⟨cs, rfl, b, o, rfl, ⟨ab, cb, xb, rfl, -⟩, ⟨ao, co, xo, rfl, -⟩⟩ := h
  simp only [Rp.agg, if_true]
  have hb := Lib.hid ((Below.refl w.heap.size w).alloc (Nat.le_refl _) (.cells #[Value.int .i64 c.state, Value.slice ab c.bytes.length cb, Value.slice ao c.old.length co] 47))
  cases hin : inB c.state 0 2
  all_goals
    have Hin := Lib.hid hin
    clear hin
    go_enter Try.func44, Try.ntmps44
    go_wp2_with (go_at_call 32; refine (in_any _ _ _ _).mono ?_; rintro e w' ⟨rfl, rfl⟩; rw [Hin.out])
    all_goals go_ret
    all_goals exact ⟨retB (by simp [cellB, Hin.out]; try omega), hb.out⟩
end Go.Proofs.Ytkdjacmabeeceaa
