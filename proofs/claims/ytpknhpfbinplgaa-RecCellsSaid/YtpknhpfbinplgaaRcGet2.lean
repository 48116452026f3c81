/-
pack.Get of too few bytes.
-/
import Derived.Test.YtpknhpfbinplgaaRcGet
namespace Go.Proofs.Ytpknhpfbinplgaa
open Go.RowKit
attribute [local go_sem ↓] Go.wp_at_zero Go.wp_at_succ

set_option maxRecDepth 100000 in
set_option maxHeartbeats 8000000 in
theorem get_few (v : Value) (l : List UInt8) (size : Int) (w : World) (Mi : Ms) (h : SlR w Mi v l) (hs : szOk size) (hl : l.length < size) :
    Calls Try.prog 55 #[v, .int .i64 size] w fun e w' => e = .returned (.tuple #[.int .i64 0, .slice none 0 0, .int .i64 4]) ∧ Below w.heap.size w w' := by
  obtain ⟨a, c, rfl⟩ := h.form
  clear h
  rcases hs with rfl | rfl | rfl
  · go_enter Try.func55, Try.ntmps55
    go_wp2
    go_ret3
    exact ⟨rfl, Below.refl _ _⟩
  · go_enter Try.func55, Try.ntmps55
    go_wp2
    go_ret3
    exact ⟨rfl, Below.refl _ _⟩
  · go_enter Try.func55, Try.ntmps55
    go_wp2
    go_ret3
    exact ⟨rfl, Below.refl _ _⟩
end Go.Proofs.Ytpknhpfbinplgaa
