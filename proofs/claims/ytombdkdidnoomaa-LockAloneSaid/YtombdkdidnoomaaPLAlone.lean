/-
The law LockAlone of package casematelaw20 answers true at every input and leaves its input as it was.
-/
import Derived.Test.YtombdkdidnoomaaLAlone
import Derived.Test.YtombdkdidnoomaaLShut
import Derived.Laws.IdiomArrays
namespace Go.Proofs.Ytombdkdidnoomaa
open Go.ChangeShapes Go.WideShapes Go.ChangeAt Go.RowKit

theorem cellsTr : Try.prog.cellsOf 36 = 3 := by kernel_rfl
theorem open_tr {H : Type} {enc : TypeId × Value → H} {w : World} : OpenAs enc w 36 Tr (fun _ => True) := fun n cs x h => by
  have hl : cs.length = 3 := by
    cases n with
    | zero => simp [DataW.trod] at h
    | succ n =>
      unfold DataW.trod at h
      rw [Try.underlying36] at h
      have r3 : List.range 3 = [0, 1, 2] := rfl
      simp only [r3] at h
      split at h
      · rename_i h2
        first | exact h2.trans cellsTr | (simp at h2; exact h2.trans cellsTr)
      · cases h
  obtain ⟨c0, c1, c2, rfl⟩ : ∃ c0 c1 c2, cs = [c0, c1, c2] := by
    match cs, hl with
    | [a, b, c], _ => exact ⟨a, b, c, rfl⟩
  obtain ⟨y0, y1, y2, n', rfl, h0, h1, h2⟩ := trod_array3 Try.underlying36 cells1 h
  obtain ⟨k0, e0, -, -⟩ := DataW.trod_int Try.underlying3 h0
  obtain ⟨k1, e1, -, -⟩ := DataW.trod_int Try.underlying3 h1
  obtain ⟨k2, e2, -, -⟩ := DataW.trod_int Try.underlying3 h2
  simp at e0 e1 e2
  subst e0 e1 e2
  exact ⟨⟨k0, k1, k2⟩, rfl, trivial⟩

set_option maxRecDepth 100000 in
theorem lalone_lifted (os : Os) (started : os.Started) (H : Type) (enc : TypeId × Value → H) :
    ReturnsInHanded {} Try.checked os 4 .any (Rows.lockAloneSpec.pre6 enc Try.prog Try.f4 Rows.lockAloneRow.domain false) (Rows.lockAloneSpec.post enc Try.prog Try.f4 false true false false) := by
  refine returnsInHanded_of_change (C := Try.checked) own_none started (by kernel_rfl) Try.func4
    (ChangeSpec.witness6 (enc := enc) (C := Try.checked) false ⟨#[], #[.slice none 0 0], []⟩ 8 (by kernel_rfl) (by kernel_rfl) (by kernel_rfl) (by kernel_rfl)) ?_
  intro W base args ds gs before hval0 hW hcnd _
  have hval : ∀ (j : Nat) t v, Try.f4.params[j]? = some t → args[j]? = some v → Value.okWide Try.prog W .any base t v := hval0
  have hW' := hW
  obtain ⟨p, q, hA0, hV, rfl, hfz, hnd⟩ := hW
  have hA : DataW.TrodAll enc Try.prog W 0 (fun _ => true) true Try.f4.params.toList args.toList ds p := hA0
  rw [Try.params4] at hA hval
  obtain ⟨v0, d0, rfl, rfl, h0⟩ := trodAll_one hA
  obtain ⟨rfl, rfl⟩ := trodVars_none hV
  obtain ⟨s0, sl0, sc0, rfl⟩ := okWide_slice Try.underlying34 (hval 0 34 v0 rfl rfl)
  obtain ⟨x0, hx0, hb0⟩ := open_arg (α := Tr) Try.underlying34 cellsTr open_tr rfl h0
  refine (lalone_any _ x0 W hx0).mono fun e W' ⟨he, hw⟩ => ?_
  subst he
  exact ⟨_, rfl, law_post hW' rfl rfl rfl rfl rfl (by decide +kernel) hw⟩

theorem lalone_holds : Rows.LockAloneSaid :=
  OpenClaim.holds_of_wide 4 Try.f4 rfl rfl rfl rfl rfl rfl rfl ⟨rfl, rfl, rfl, rfl, rfl⟩ rfl rfl rfl rfl rfl (by kernel_rfl) Try.func4 (by kernel_rfl)
    (of_decide_eq_true (by kernel_rfl)) (by unfold Func.isWrapper; first | (rw [if_pos (by decide +kernel)]; kernel_rfl) | (rw [if_neg (by decide +kernel)]; exact ⟨rfl, rfl⟩))
    (fun os started H enc _ => lalone_lifted os started H enc)
end Go.Proofs.Ytombdkdidnoomaa
