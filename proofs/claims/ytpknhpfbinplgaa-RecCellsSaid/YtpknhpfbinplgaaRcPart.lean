/-
pack.Part.
-/
import Derived.Test.YtpknhpfbinplgaaRcRow
namespace Go.Proofs.Ytpknhpfbinplgaa
open Go.RowKit
attribute [local go_sem ↓] Go.wp_at_zero Go.wp_at_succ

set_option maxRecDepth 100000 in
set_option maxHeartbeats 8000000 in
theorem part_any (v : Value) (l : List UInt8) (w : World) (M Mi : Ms) (h : SlR w Mi v l) (hl : l.length ≤ 255) :
    Calls Try.prog 36 #[v] w fun e w' => ∃ r, e = .returned (.tuple #[r, .int .i64 0]) ∧ OwR w' M w.heap.size 5 r (UInt8.ofNat l.length :: l) ∧ Below w.heap.size w w' := by
  obtain ⟨a, c, rfl⟩ := h.form
  have hL := OwR.litB w noM [UInt8.ofNat l.length] (by simp)
  have e : ((UInt8.ofNat l.length).toNat : Int) = (l.length : Int) := by simp; omega
  simp only [List.map_cons, List.map_nil, e, List.length_cons, List.length_nil] at hL
  have hL := Lib.hid hL
  have hS := Lib.hid (h.bare.mono (Keep.ownNew (o := .cells #[Value.int .u8 (l.length : Int)] 5) (n := 1) (c := 1)))
  have HB := Lib.hid ((Below.refl w.heap.size w).alloc (Nat.le_refl _) (.cells #[Value.int .u8 (l.length : Int)] 5))
  have hl' : ¬ (255 : Int) < l.length := by omega
  have hw8 : IntKind.u8.wrap (l.length : Int) = l.length := by rw [IntKind.wrap_u8]; omega
  have hb : [UInt8.ofNat l.length].length + l.length ≤ 1000000000 := by simp; omega
  clear h e hl
  go_enter Try.func36, Try.ntmps36
  go_wp2_with (at_builtin; go_must (refine wpList_append_R (α := UInt8) (M := noM) (base := w.heap.size) (l := [UInt8.ofNat l.length]) (m := l) rfl (by rfl) tyB (by rfl) hL.out (by rfl) hS.out hb HB.out.size ?_); intro v4 w4 ho4 hg4 hat4)
  have HO := Lib.hid (And.intro (OwR.plain (M' := M) (fun _ _ _ _ _ h => h) ho4) (HB.out.grown hg4 HB.out.size (fun b e => hL.out.own_ge e)))
  clear ho4 hg4 hat4
  go_wp2
  go_ret2
  exact ⟨_, rfl, HO.out.1, HO.out.2⟩
theorem part_long (v : Value) (l : List UInt8) (w : World) (Mi : Ms) (h : SlR w Mi v l) (hl : 255 < l.length) :
    Calls Try.prog 36 #[v] w fun e w' => e = .returned (.tuple #[.slice none 0 0, .int .i64 2]) ∧ Below w.heap.size w w' := by
  obtain ⟨a, c, rfl⟩ := h.form
  have hl' : (255 : Int) < l.length := by omega
  clear h
  go_enter Try.func36, Try.ntmps36
  go_wp2
  go_ret2
  exact ⟨rfl, Below.refl _ _⟩
end Go.Proofs.Ytpknhpfbinplgaa
