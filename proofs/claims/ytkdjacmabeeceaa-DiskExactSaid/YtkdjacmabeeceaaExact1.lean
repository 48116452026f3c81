/-
Plain laws of DiskExact: sizes.
-/
import Derived.Test.YtkdjacmabeeceaaExact0
namespace Go.Proofs.Ytkdjacmabeeceaa
open Go.RowKit
theorem upx {w w' w'' : World} (h : Below w.heap.size w w') (hB : Below w'.heap.size w' w'') : Below w.heap.size w w'' := h.trans (hB.mono h.size)
theorem hvF.small {d : Dis} (h : hvF d) : smD d := ⟨by have := h.1; omega, by have := h.2.1; omega, fun c hc => by have := h.2.2.1 c hc; omega, fun c hc => by have := h.2.2.2 c hc; omega⟩
theorem okread {d : Dis} (h : OkD d) : OkD (readD d) := by
  unfold readD; split
  · exact h
  · exact h.req
theorem readV_len {d : Dis} (h : OkD d) (j : Nat) : (readV d j).1.length ≤ 1000000000 := by
  unfold readV
  split
  · simp
  · cases hw : lastW d.cache j with
    | some t =>
      unfold lastW at hw
      rw [Option.map_eq_some_iff] at hw
      obtain ⟨y, hy, rfl⟩ := hw
      have := List.mem_of_find?_eq_some hy
      exact Nat.le_trans (h.2.2 y (by simpa using this)).2.2 (by omega)
    | none =>
      cases hc' : d.cells[j]? with
      | none => simp
      | some c =>
        simp only
        split
        · exact Nat.le_trans (h.2.1 c (List.mem_of_getElem? hc')).2.2.1 (by omega)
        · simp
theorem fault_sm {d : Dis} (h : OkD d) (kind a fr bit bs : Int) : smD (faultT d kind a fr bit bs).1 := by
  unfold faultT
  split
  · split
    · cases hc : d.cells[a.toNat]? with
      | none => exact smD_no
      | some c =>
        have hcm := h.2.1 c (List.mem_of_getElem? hc)
        simp only
        cases hf : cellF d c kind fr bit bs with
        | none => exact smD_no
        | some c' =>
          have hc' : c'.bytes.length ≤ 200 ∧ c'.old.length ≤ 200 := by
            unfold cellF at hf
            split at hf
            · split at hf <;> (simp only [Option.some.injEq] at hf; subst hf; exact ⟨hcm.2.2.1, hcm.2.2.2⟩)
            · split at hf
              · simp only [Option.some.injEq] at hf; subst hf; exact ⟨hcm.2.2.1, hcm.2.2.2⟩
              · split at hf
                · split at hf
                  · cases hf
                  · simp only [Option.some.injEq] at hf; subst hf; exact ⟨by rw [flipS_length]; exact hcm.2.2.1, hcm.2.2.2⟩
                · split at hf
                  · simp only [Option.some.injEq] at hf; subst hf; exact ⟨hcm.2.2.2, hcm.2.2.2⟩
                  · split at hf
                    · split at hf
                      · rw [Option.map_eq_some_iff] at hf
                        obtain ⟨y, hy, rfl⟩ := hf
                        exact ⟨(h.2.1 y (List.mem_of_getElem? hy)).2.2.1, hcm.2.2.2⟩
                      · cases hf
                    · cases hf
          have hsm := h.sm
          refine ⟨by simpa using hsm.1, hsm.2.1, fun y hy => ?_, hsm.2.2.2⟩
          rcases List.mem_or_eq_of_mem_set hy with hy | rfl
          · exact hsm.2.2.1 y hy
          · exact ⟨by omega, by omega⟩
    · exact smD_no
  · exact smD_no
end Go.Proofs.Ytkdjacmabeeceaa
