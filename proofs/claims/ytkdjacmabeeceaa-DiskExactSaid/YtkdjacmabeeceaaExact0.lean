/-
Plain laws of DiskExact.
-/
import Derived.Test.YtkdjacmabeeceaaRFault
import Derived.Test.YtkdjacmabeeceaaRRead
import Derived.Test.YtkdjacmabeeceaaRWrite
import Derived.Test.YtkdjacmabeeceaaRight
import Derived.Test.YtkdjacmabeeceaaSame
namespace Go.Proofs.Ytkdjacmabeeceaa
open Go.RowKit

/-- What the operations come to on a disk that is none. -/
theorem exact_bad {d : Dis} (h : disB d = false) (a : Int) (b : List UInt8) (keep kind fr bit : Int) :
    readT d a = (noD, [], 1) ∧ writeT d a b = (noD, 1) ∧ flushT d = (noD, 1) ∧ crashT d keep = (noD, 1) ∧ faultT d kind a fr bit bit = (noD, 1) := by
  refine ⟨by simp [readT, okT, h], by simp [writeT, okT, h], by simp [flushT, h], by simp [crashT, h], by simp [faultT, okT, h]⟩
theorem okT_is {d : Dis} (h : disB d = true) (a : Int) : okT d a = decide (0 ≤ a ∧ a < d.cells.length) := by
  rw [okT, h, Bool.true_and, inB]
  by_cases h1 : 0 ≤ a ∧ a < d.cells.length
  · simp only [h1, and_self, decide_true, Bool.and_eq_true, decide_eq_true_eq, true_and]; omega
  · rw [decide_eq_false h1, Bool.and_eq_false_iff]
    by_cases h2 : 0 ≤ a
    · right; simp only [decide_eq_false_iff_not]; omega
    · left; simp only [decide_eq_false_iff_not]; omega
theorem fault_same {d : Dis} (h : disB d = true) (kind a fr bit bs : Int) : (faultT d kind a fr bit bs).2 = (rfaultT d kind a fr bit bs).2 ∧ ((rfaultT d kind a fr bit bs).2 = 0 → (faultT d kind a fr bit bs).1 = (rfaultT d kind a fr bit bs).1) ∧ ((rfaultT d kind a fr bit bs).2 ≠ 0 → (faultT d kind a fr bit bs).1 = noD) := by
  unfold faultT rfaultT
  rw [okT, h, Bool.true_and]
  by_cases hA : inB a 0 (d.cells.length - 1) = true
  · rw [if_pos hA, if_pos hA]
    by_cases hc : d.cache.length = 0
    · rw [if_pos hc, if_pos hc]
      cases d.cells[a.toNat]? with
      | none => simp
      | some c => simp only; cases cellF d c kind fr bit bs <;> simp
    · rw [if_neg hc, if_neg hc]; simp
  · rw [if_neg hA, if_neg hA]; simp
theorem smD_no : smD noD := by
  refine ⟨by decide, by decide, ?_, ?_⟩ <;> intro c hc <;> simp [noD] at hc
end Go.Proofs.Ytkdjacmabeeceaa
