/-
The law CommitLost of package casematelaw23 answers true at every input and leaves its input as it was (the card ties utf8's two tables to the program's text).
-/
import Derived.Test.YtepdhdfoipephaaGreatDoorPPD3P5
import Derived.Test.YtepdhdfoipephaaGreatDoorCards
import Derived.Test.YtepdhdfoipephaaGreatDoorTie
namespace Go.Proofs.YtepdhdfoipephaaGreatDoor
open Go.ChangeShapes Go.WideShapes Go.ChangeAt Go.RowKit

theorem KT {H : Type} {enc : TypeId × Value → H} {P : Program} {w : World} {base : Nat} {spare : Nat → Bool} {held : Bool} {t0 t1 : TypeId} {args : Array Value} {ds : List (DataW H)} {ps : List MemPlace} (h : DataW.TrodAll enc P w base spare held [t0, t1] args.toList ds ps) :
    ∃ v0 v1 d0 d1 p0 p1, args = #[v0, v1] ∧ ds = [d0, d1] ∧
      DataW.Trod enc P w base spare held t0 v0 d0 p0 ∧ DataW.Trod enc P w base spare held t1 v1 d1 p1 := by
  obtain ⟨v0, vs0, d0, ds0, p0, q0, ha, rfl, rfl, h0, r0⟩ := trodAll_cons h;obtain ⟨v1, vs1, d1, ds1, p1, q1, rfl, rfl, rfl, h1, r1⟩ := trodAll_cons r0;obtain ⟨rfl, rfl, rfl⟩ := trodAll_nil r1;exact ⟨v0, v1, d0, d1, p0, p1, by cases args; simp_all, rfl, h0, h1⟩

theorem Rt (os : Os) (args : Array Value) : laidMetH Tryz.prog Rows.commitLostRow.laid ((JL os).forCall (fun _ _ => 0) ⟨#[], args, []⟩).memory := Vw os args

set_option maxRecDepth 100000 in
theorem Om (os : Os) (started : os.Started) (H : Type) (enc : TypeId × Value → H) :
    ReturnsInHanded {} Tryz.checked os 8 .any (fun w args => (Rows.commitLostSpec.pre enc Tryz.prog Tryz.f8 [] false w args ∧ laidMetH Tryz.prog Rows.commitLostRow.laid w) ∧ sizedMet enc Tryz.prog Tryz.f8 (OpenSpec.ofChange Rows.commitLostSpec) false w args)
      (Rows.commitLostSpec.post enc Tryz.prog Tryz.f8 false true false false) := by
  refine returnsInHanded_of_change_and (C := Tryz.checked) (X := fun w _ => laidMetH Tryz.prog Rows.commitLostRow.laid w) (fun _ _ _ hh h => h.of_heap hh) own_none started (by kernel_rfl) Tryz.func8
    (ChangeSpec.witness_at (enc := enc) (C := Tryz.checked) (os := os) (X := fun w _ => laidMetH Tryz.prog Rows.commitLostRow.laid w) false (JL os) #[.int .i64 0, .slice none 0 0] 8 rfl (by kernel_rfl) (by kernel_rfl) (by kernel_rfl) (by kernel_rfl) (by kernel_rfl) (Rt os _)) ?_
  intro W base args ds gs before hval0 hW _ _ hL _;have hval : ∀ (j : Nat) t v, Tryz.f8.params[j]? = some t → args[j]? = some v → Value.okWide Tryz.prog W .any base t v := hval0;have hW' := hW;obtain ⟨p, q, hA0, hV, rfl, hfz, hnd⟩ := hW;have hA : DataW.TrodAll enc Tryz.prog W 0 (fun _ => true) true Tryz.f8.params.toList args.toList ds p := hA0;rw [Tryz.params8] at hA hval;obtain ⟨v0, v1, d0, d1, p0, p1, rfl, rfl, h0, h1⟩ := KT hA;obtain ⟨rfl, rfl⟩ := trodVars_none hV;obtain ⟨x0, rfl, rfl, rfl, wf0⟩ := open_int Tryz.underlying3 (hval 0 3 v0 rfl rfl) h0;have e0 : A.Rd (.v (.int .i64 x0)) (A.Mb W) (.int .i64 x0) := A.UZ _;obtain ⟨s1, sl1, sc1, rfl⟩ := okWide_slice Tryz.underlying47 (hval 1 47 v1 rfl rfl);obtain ⟨_, ⟨x1, rfl⟩, e1⟩ := A.Ya A.oBy rfl h1;replace e1 := A.Xl e1;have htab : A.globOk W := Tf hL;refine ((A.Wj x0 x1).anyV W htab [.int .i64 x0, .slice s1 sl1 sc1] ?_).mono fun e W' ⟨he, hw⟩ => ?_
  · simp only [A.RdL];exact ⟨_, _, rfl, e0, ⟨_, _, rfl, e1, rfl⟩⟩
  · subst he;exact ⟨_, rfl, Vu hW' rfl rfl rfl rfl rfl (by decide +kernel) hw⟩

set_option maxRecDepth 100000 in
theorem Wi : (laidOutB Tryz.prog) = true := by kernel_rfl
set_option maxRecDepth 100000 in
theorem Wh : (mapsRowed Tryz.prog) = true := by kernel_rfl
set_option maxRecDepth 100000 in
theorem Wg : ((Rows.commitLostRow.inPlace == Tryz.prog.inPlace 8)) = true := by kernel_rfl
set_option maxRecDepth 100000 in
theorem Wf : ((Rows.commitLostRow.unfollowed == Tryz.prog.unfollowed 8)) = true := by kernel_rfl
set_option maxRecDepth 100000 in
theorem We : ((Rows.commitLostRow.recurses == Tryz.prog.recurses 8)) = true := by kernel_rfl
set_option maxRecDepth 100000 in
theorem Wd : ((Rows.commitLostRow.named == Tryz.prog.varsNamed 8)) = true := by kernel_rfl
set_option maxRecDepth 100000 in
theorem Wc : ((Rows.commitLostRow.plainKeys == Tryz.prog.plainKeys)) = true := by kernel_rfl
set_option maxRecDepth 100000 in
theorem Wb : (Tryz.prog.stopsHeard) = true := by kernel_rfl
set_option maxRecDepth 100000 in
theorem Wa : (Tryz.prog.mayEnter) = true := by kernel_rfl
set_option maxRecDepth 100000 in
theorem V_ : ((Rows.commitLostRow.lifted == Tryz.prog.liftsFinal)) = true := by kernel_rfl
set_option maxRecDepth 100000 in
theorem TO : ((Tryz.prog.make == some Rows.commitLostRow.make)) = true := by kernel_rfl
set_option maxRecDepth 100000 in
theorem On : joinedFacts Tryz.prog 8 Tryz.f8 Rows.commitLostSpec Rows.commitLostRow = true := by
  unfold joinedFacts;rw [Wi, Wh, Wg, Wf, We, Wd, Wc, Wb, Wa, V_, TO];kernel_rfl
theorem Rs : Rows.CommitLostSaid :=
  OpenClaim.holds_of_wide 8 Tryz.f8 rfl rfl rfl rfl rfl rfl rfl tA rfl rfl rfl rfl rfl (by kernel_rfl) Tryz.func8 On
    (of_decide_eq_true (by kernel_rfl)) (by unfold Func.isWrapper; first | (rw [if_pos (by decide +kernel)]; kernel_rfl) | (rw [if_neg (by decide +kernel)]; exact tA))
    (fun os started H enc _ => Om os started H enc)
theorem XU : false = Rows.commitLostRow.goesBy Tryz.prog := by kernel_rfl
theorem clost_holds : Rows.CommitLostCardSaid :=
  Claim7.holds_tied_plain_at .later [] [.data, .pinned] true (true, "b49440227ae96ef30e6cb25abc95775e5671281748070785d4d572a7869c8a23") true
    Rs (fun _ h => by cases h) (by kernel_rfl) (fun _ h => by cases h) commitLost_row_tie rfl tA (by kernel_rfl) rfl
    (fun f fn hf hfn => by
      obtain rfl : f = 8 := Option.some.inj ((show Tryz.prog.funcNamed "casemate/casematelaw23.CommitLost" = some 8 by kernel_rfl).symm.trans hf) |>.symm
      obtain rfl : fn = Tryz.f8 := (Option.some.inj (Tryz.func8.symm.trans hfn)).symm;exact ⟨by kernel_rfl, fun j t ht => by
        rw [Tryz.params8] at ht;have hm : t ∈ [3, 47] := by
          have := Array.mem_of_getElem? ht;first | (simp at this ⊢; omega) | simpa using this
        have hall : ([3, 47].all fun u => !Tryz.prog.wantsStandIn u) = true := by kernel_rfl
        exact (show Tryz.prog.wantsStandIn t = false by simpa using Au.1 hall t hm)⟩)
    XU
end Go.Proofs.YtepdhdfoipephaaGreatDoor
