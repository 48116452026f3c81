/-
The law CheckReads of package casematelaw24 answers true at every input and leaves its input as it was (the card ties utf8's two tables to the program's text).
-/
import Derived.Test.YtkolckdakddggaaGreatDoorPPC2P6
import Derived.Test.YtkolckdakddggaaGreatDoorCards
import Derived.Test.YtkolckdakddggaaGreatDoorTie
namespace Go.Proofs.YtkolckdakddggaaGreatDoor
open Go.ChangeShapes Go.WideShapes Go.ChangeAt Go.RowKit

theorem KZ {H : Type} {enc : TypeId × Value → H} {P : Program} {w : World} {base : Nat} {spare : Nat → Bool} {held : Bool} {t0 t1 : TypeId} {args : Array Value} {ds : List (DataW H)} {ps : List MemPlace} (h : DataW.TrodAll enc P w base spare held [t0, t1] args.toList ds ps) :
    ∃ v0 v1 d0 d1 p0 p1, args = #[v0, v1] ∧ ds = [d0, d1] ∧
      DataW.Trod enc P w base spare held t0 v0 d0 p0 ∧ DataW.Trod enc P w base spare held t1 v1 d1 p1 := by
  obtain ⟨v0, vs0, d0, ds0, p0, q0, ha, rfl, rfl, h0, r0⟩ := trodAll_cons h
  obtain ⟨v1, vs1, d1, ds1, p1, q1, rfl, rfl, rfl, h1, r1⟩ := trodAll_cons r0
  obtain ⟨rfl, rfl, rfl⟩ := trodAll_nil r1
  exact ⟨v0, v1, d0, d1, p0, p1, by cases args; simp_all, rfl, h0, h1⟩

theorem Ql (os : Os) (args : Array Value) : laidMetH Tryz.prog Rows.checkReadsRow.laid ((Ks os).forCall (fun _ _ => 0) ⟨#[], args, []⟩).memory := VR os args

set_option maxRecDepth 100000 in
theorem MW (os : Os) (started : os.Started) (H : Type) (enc : TypeId × Value → H) :
    ReturnsInHanded {} Tryz.checked os 4 .any (fun w args => (Rows.checkReadsSpec.pre enc Tryz.prog Tryz.f4 [] false w args ∧ laidMetH Tryz.prog Rows.checkReadsRow.laid w) ∧ sizedMet enc Tryz.prog Tryz.f4 (OpenSpec.ofChange Rows.checkReadsSpec) false w args)
      (Rows.checkReadsSpec.post enc Tryz.prog Tryz.f4 false true false false) := by
  refine returnsInHanded_of_change_and (C := Tryz.checked) (X := fun w _ => laidMetH Tryz.prog Rows.checkReadsRow.laid w) (fun _ _ _ hh h => h.of_heap hh) own_none started (by kernel_rfl) Tryz.func4
    (ChangeSpec.witness_at (enc := enc) (C := Tryz.checked) (os := os) (X := fun w _ => laidMetH Tryz.prog Rows.checkReadsRow.laid w) false (Ks os) #[.agg #[.int .i64 0, .int .i64 0, .int .i64 0, .int .i64 0, .int .i64 0], .slice none 0 0] 8 rfl (by kernel_rfl) (by kernel_rfl) (by kernel_rfl) (by kernel_rfl) (by kernel_rfl) (Ql os _)) ?_
  intro W base args ds gs before hval0 hW _ _ hL _
  have hval : ∀ (j : Nat) t v, Tryz.f4.params[j]? = some t → args[j]? = some v → Value.okWide Tryz.prog W .any base t v := hval0
  have hW' := hW
  obtain ⟨p, q, hA0, hV, rfl, hfz, hnd⟩ := hW
  have hA : DataW.TrodAll enc Tryz.prog W 0 (fun _ => true) true Tryz.f4.params.toList args.toList ds p := hA0
  rw [Tryz.params4] at hA hval
  obtain ⟨v0, v1, d0, d1, p0, p1, rfl, rfl, h0, h1⟩ := KZ hA
  obtain ⟨rfl, rfl⟩ := trodVars_none hV
  obtain ⟨cs0, rfl, -⟩ := okWide_struct Tryz.underlying23 (hval 0 23 v0 rfl rfl)
  obtain ⟨_, ⟨x0, rfl⟩, e0⟩ := A.Yq A.oGeo h0
  obtain ⟨s1, sl1, sc1, rfl⟩ := okWide_slice Tryz.underlying24 (hval 1 24 v1 rfl rfl)
  obtain ⟨_, ⟨x1, rfl⟩, e1⟩ := A.Yp A.oQ2s rfl h1
  replace e1 := A.XA e1
  have htab : A.globOk W := T6 hL
  refine ((A.Ur x0 x1).anyV W htab [.agg cs0, .slice s1 sl1 sc1] ?_).mono fun e W' ⟨he, hw⟩ => ?_
  · simp only [A.RdL]
    exact ⟨_, _, rfl, e0, ⟨_, _, rfl, e1, rfl⟩⟩
  · subst he
    exact ⟨_, rfl, VP hW' rfl rfl rfl rfl rfl (by decide +kernel) hw⟩

set_option maxRecDepth 100000 in
theorem Uq : (laidOutB Tryz.prog) = true := by kernel_rfl
set_option maxRecDepth 100000 in
theorem Up : (mapsRowed Tryz.prog) = true := by kernel_rfl
set_option maxRecDepth 100000 in
theorem Uo : ((Rows.checkReadsRow.inPlace == Tryz.prog.inPlace 4)) = true := by kernel_rfl
set_option maxRecDepth 100000 in
theorem Un : ((Rows.checkReadsRow.unfollowed == Tryz.prog.unfollowed 4)) = true := by kernel_rfl
set_option maxRecDepth 100000 in
theorem Um : ((Rows.checkReadsRow.recurses == Tryz.prog.recurses 4)) = true := by kernel_rfl
set_option maxRecDepth 100000 in
theorem Ul : ((Rows.checkReadsRow.named == Tryz.prog.varsNamed 4)) = true := by kernel_rfl
set_option maxRecDepth 100000 in
theorem Uk : ((Rows.checkReadsRow.plainKeys == Tryz.prog.plainKeys)) = true := by kernel_rfl
set_option maxRecDepth 100000 in
theorem Uj : (Tryz.prog.stopsHeard) = true := by kernel_rfl
set_option maxRecDepth 100000 in
theorem Ui : (Tryz.prog.mayEnter) = true := by kernel_rfl
set_option maxRecDepth 100000 in
theorem Uh : ((Rows.checkReadsRow.lifted == Tryz.prog.liftsFinal)) = true := by kernel_rfl
set_option maxRecDepth 100000 in
theorem R9 : ((Tryz.prog.make == some Rows.checkReadsRow.make)) = true := by kernel_rfl
set_option maxRecDepth 100000 in
theorem MX : joinedFacts Tryz.prog 4 Tryz.f4 Rows.checkReadsSpec Rows.checkReadsRow = true := by
  unfold joinedFacts
  rw [Uq, Up, Uo, Un, Um, Ul, Uk, Uj, Ui, Uh, R9]
  kernel_rfl
theorem Qk : Rows.CheckReadsSaid :=
  OpenClaim.holds_of_wide 4 Tryz.f4 rfl rfl rfl rfl rfl rfl rfl ⟨rfl, rfl, rfl, rfl, rfl⟩ rfl rfl rfl rfl rfl (by kernel_rfl) Tryz.func4 MX
    (of_decide_eq_true (by kernel_rfl)) (by unfold Func.isWrapper; first | (rw [if_pos (by decide +kernel)]; kernel_rfl) | (rw [if_neg (by decide +kernel)]; exact ⟨rfl, rfl⟩))
    (fun os started H enc _ => MW os started H enc)
theorem creads_holds : Rows.CheckReadsCardSaid :=
  Claim7.holds_tied_plain_at .later [] [.data, .pinned] true (true, "493e6d6e15975045fda606c0f97e4a2d6764d2f8af5a2cc7a324f75a93bec46d") true
    Qk (fun _ h => by cases h) (by kernel_rfl) (fun _ h => by cases h) checkReads_row_tie rfl ⟨rfl, rfl⟩ (by kernel_rfl) rfl
    (fun f fn hf hfn => by
      obtain rfl : f = 4 := Option.some.inj ((show Tryz.prog.funcNamed "casemate/casematelaw24.CheckReads" = some 4 by kernel_rfl).symm.trans hf) |>.symm
      obtain rfl : fn = Tryz.f4 := (Option.some.inj (Tryz.func4.symm.trans hfn)).symm
      exact ⟨by kernel_rfl, fun j t ht => by
        rw [Tryz.params4] at ht
        have hm : t ∈ [23, 24] := by
          have := Array.mem_of_getElem? ht
          first | (simp at this ⊢; omega) | simpa using this
        have hall : ([23, 24].all fun u => !Tryz.prog.wantsStandIn u) = true := by kernel_rfl
        exact (show Tryz.prog.wantsStandIn t = false by simpa using Aw.1 hall t hm)⟩)
    (by kernel_rfl)
end Go.Proofs.YtkolckdakddggaaGreatDoor
