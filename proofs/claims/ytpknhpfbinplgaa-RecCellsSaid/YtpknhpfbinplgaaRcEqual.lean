/-
bytes.Equal.
-/
import Derived.Test.YtpknhpfbinplgaaRcTbytes
import Derived.Laws.BytesArg
import Derived.Lib.Strings
import Derived.Lib.Slices
import Derived.Lib.Walk
import Derived.Lib.Bytes
namespace Go.Proofs.Ytpknhpfbinplgaa
open Go.RowKit
attribute [local go_sem ↓] Go.wp_at_zero Go.wp_at_succ

/-- What `string(b)` is. -/
theorem conv_any (v : Value) (l : List UInt8) (w : World) (Mi : Ms) (h : SlR w Mi v l) : (convert 24 9 v).run Try.prog w = .ok (.string (strOfNums (l.map fun x => (x.toNat : Int)))) w := by
  by_cases hl : l = []
  · subst hl
    obtain ⟨a, c, rfl⟩ := h.form
    rw [List.length_nil, run_convert_bytes_string w 24 9 5 _ 0 c Try.underlying24 Try.underlying5 Try.underlying9]
    cases a <;> simp [Conv.bytesToString, loadCells]
    all_goals rfl
  · have hpos : 0 < l.length := List.length_pos_iff.2 hl
    obtain ⟨a, c, rfl⟩ := h.form
    obtain ⟨b, off, rfl, -, -⟩ := u8_at h hpos
    refine run_convert_bytes_arg (P := Try.prog) w 24 5 Try.underlying24 Try.underlying5 b off l.length c _ (by simp) (fun i hi => ?_) 9 Try.underlying9
    obtain ⟨b', off', e, -, x⟩ := u8_at h hi
    cases e
    rw [x, List.getD_eq_getElem?_getD, List.getElem?_map, List.getElem?_eq_getElem hi]
    rfl
theorem strOf_list (l : List UInt8) : Lib.bytesOf (l.map fun x => (x.toNat : Int)) = l := by
  unfold Lib.bytesOf
  rw [List.map_map]
  conv => rhs; rw [← List.map_id l]
  apply List.map_congr_left
  intro x _
  simp

set_option maxHeartbeats 1000000 in
theorem equal_any (v1 v2 : Value) (l1 l2 : List UInt8) (w : World) (M1 M2 : Ms) (h1 : SlR w M1 v1 l1) (h2 : SlR w M2 v2 l2) :
    Calls Try.prog 40 #[v1, v2] w fun e w' => e = .returned (.bool (decide (l1 = l2))) ∧ w' = w := by
  have c1 := conv_any v1 l1 w M1 h1
  have c2 := conv_any v2 l2 w M2 h2
  have hE : decide (l1 = l2) = (Lib.bytesOf (l1.map fun x => (x.toNat : Int)) == Lib.bytesOf (l2.map fun x => (x.toNat : Int))) := by rw [strOf_list, strOf_list]; by_cases h : l1 = l2 <;> simp [h]
  rw [hE, ← Lib.strOfNums_toList, ← Lib.strOfNums_toList]
  obtain ⟨s1, hs1⟩ : ∃ s, s = strOfNums (l1.map fun x => (x.toNat : Int)) := ⟨_, rfl⟩
  obtain ⟨s2, hs2⟩ : ∃ s, s = strOfNums (l2.map fun x => (x.toNat : Int)) := ⟨_, rfl⟩
  rw [← hs1] at c1 ⊢
  rw [← hs2] at c2 ⊢
  clear hE hs1 hs2 h1 h2
  go_enter Try.func40, Try.ntmps40
  go_wp2
  go_ret
  exact ⟨rfl, rfl⟩
end Go.Proofs.Ytpknhpfbinplgaa
