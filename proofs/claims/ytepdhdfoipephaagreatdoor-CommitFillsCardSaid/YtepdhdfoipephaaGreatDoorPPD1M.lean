/-
The law CommitFills of package casematelaw23 answers true at every input and leaves its input as it was (the card ties utf8's two tables to the program's text).
-/
import Derived.Test.YtepdhdfoipephaaGreatDoorPPD1P5
import Derived.Test.YtepdhdfoipephaaGreatDoorCards
import Derived.Test.YtepdhdfoipephaaGreatDoorTie
namespace Go.Proofs.YtepdhdfoipephaaGreatDoor
open Go.ChangeShapes Go.WideShapes Go.ChangeAt Go.RowKit

theorem Kq {H : Type} {enc : TypeId × Value → H} {P : Program} {w : World} {base : Nat} {spare : Nat → Bool} {held : Bool} {t0 t1 t2 t3 : TypeId} {args : Array Value} {ds : List (DataW H)} {ps : List MemPlace} (h : DataW.TrodAll enc P w base spare held [t0, t1, t2, t3] args.toList ds ps) :
    ∃ v0 v1 v2 v3 d0 d1 d2 d3 p0 p1 p2 p3, args = #[v0, v1, v2, v3] ∧ ds = [d0, d1, d2, d3] ∧
      DataW.Trod enc P w base spare held t0 v0 d0 p0 ∧ DataW.Trod enc P w base spare held t1 v1 d1 p1 ∧ DataW.Trod enc P w base spare held t2 v2 d2 p2 ∧ DataW.Trod enc P w base spare held t3 v3 d3 p3 := by
  obtain ⟨v0, vs0, d0, ds0, p0, q0, ha, rfl, rfl, h0, r0⟩ := trodAll_cons h;obtain ⟨v1, vs1, d1, ds1, p1, q1, rfl, rfl, rfl, h1, r1⟩ := trodAll_cons r0;obtain ⟨v2, vs2, d2, ds2, p2, q2, rfl, rfl, rfl, h2, r2⟩ := trodAll_cons r1;obtain ⟨v3, vs3, d3, ds3, p3, q3, rfl, rfl, rfl, h3, r3⟩ := trodAll_cons r2;obtain ⟨rfl, rfl, rfl⟩ := trodAll_nil r3;exact ⟨v0, v1, v2, v3, d0, d1, d2, d3, p0, p1, p2, p3, by cases args; simp_all, rfl, h0, h1, h2, h3⟩

theorem PJ (os : Os) (args : Array Value) : laidMetH Tryz.prog Rows.commitFillsRow.laid ((JC os).forCall (fun _ _ => 0) ⟨#[], args, []⟩).memory := Vs os args

set_option maxRecDepth 100000 in
theorem Mk (os : Os) (started : os.Started) (H : Type) (enc : TypeId × Value → H) :
    ReturnsInHanded {} Tryz.checked os 5 .any (fun w args => (Rows.commitFillsSpec.pre enc Tryz.prog Tryz.f5 [] false w args ∧ laidMetH Tryz.prog Rows.commitFillsRow.laid w) ∧ sizedMet enc Tryz.prog Tryz.f5 (OpenSpec.ofChange Rows.commitFillsSpec) false w args)
      (Rows.commitFillsSpec.post enc Tryz.prog Tryz.f5 false true false false) := by
  refine returnsInHanded_of_change_and (C := Tryz.checked) (X := fun w _ => laidMetH Tryz.prog Rows.commitFillsRow.laid w) (fun _ _ _ hh h => h.of_heap hh) own_none started (by kernel_rfl) Tryz.func5
    (ChangeSpec.witness_at (enc := enc) (C := Tryz.checked) (os := os) (X := fun w _ => laidMetH Tryz.prog Rows.commitFillsRow.laid w) false (JC os) #[.int .i64 0, .int .i64 0, .int .i64 0, .slice none 0 0] 8 rfl (by kernel_rfl) (by kernel_rfl) (by kernel_rfl) (by kernel_rfl) (by kernel_rfl) (PJ os _)) ?_
  intro W base args ds gs before hval0 hW _ _ hL _;have hval : ∀ (j : Nat) t v, Tryz.f5.params[j]? = some t → args[j]? = some v → Value.okWide Tryz.prog W .any base t v := hval0;have hW' := hW;obtain ⟨p, q, hA0, hV, rfl, hfz, hnd⟩ := hW;have hA : DataW.TrodAll enc Tryz.prog W 0 (fun _ => true) true Tryz.f5.params.toList args.toList ds p := hA0;rw [Tryz.params5] at hA hval;obtain ⟨v0, v1, v2, v3, d0, d1, d2, d3, p0, p1, p2, p3, rfl, rfl, h0, h1, h2, h3⟩ := Kq hA;obtain ⟨rfl, rfl⟩ := trodVars_none hV;obtain ⟨x0, rfl, rfl, rfl, wf0⟩ := open_int Tryz.underlying3 (hval 0 3 v0 rfl rfl) h0;have e0 : A.Rd (.v (.int .i64 x0)) (A.JJ W) (.int .i64 x0) := A.Q6 _;obtain ⟨x1, rfl, rfl, rfl, wf1⟩ := open_int Tryz.underlying3 (hval 1 3 v1 rfl rfl) h1;have e1 : A.Rd (.v (.int .i64 x1)) (A.JJ W) (.int .i64 x1) := A.Q6 _;obtain ⟨x2, rfl, rfl, rfl, wf2⟩ := open_int Tryz.underlying3 (hval 2 3 v2 rfl rfl) h2;have e2 : A.Rd (.v (.int .i64 x2)) (A.JJ W) (.int .i64 x2) := A.Q6 _;obtain ⟨s3, sl3, sc3, rfl⟩ := okWide_slice Tryz.underlying35 (hval 3 35 v3 rfl rfl);obtain ⟨_, ⟨x3, rfl⟩, e3⟩ := A.XF A.oIs rfl h3;replace e3 := A.WU e3;have htab : A.globOk W := S_ hL;refine ((A.TN x0 x1 x2 x3).anyV W htab [.int .i64 x0, .int .i64 x1, .int .i64 x2, .slice s3 sl3 sc3] ?_).mono fun e W' ⟨he, hw⟩ => ?_
  · simp only [A.RdL];exact ⟨_, _, rfl, e0, ⟨_, _, rfl, e1, ⟨_, _, rfl, e2, ⟨_, _, rfl, e3, rfl⟩⟩⟩⟩
  · subst he;exact ⟨_, rfl, Vq hW' rfl rfl rfl rfl rfl (by decide +kernel) hw⟩

set_option maxRecDepth 100000 in
theorem TM : (laidOutB Tryz.prog) = true := by kernel_rfl
set_option maxRecDepth 100000 in
theorem TL : (mapsRowed Tryz.prog) = true := by kernel_rfl
set_option maxRecDepth 100000 in
theorem TK : ((Rows.commitFillsRow.inPlace == Tryz.prog.inPlace 5)) = true := by kernel_rfl
set_option maxRecDepth 100000 in
theorem TJ : ((Rows.commitFillsRow.unfollowed == Tryz.prog.unfollowed 5)) = true := by kernel_rfl
set_option maxRecDepth 100000 in
theorem TI : ((Rows.commitFillsRow.recurses == Tryz.prog.recurses 5)) = true := by kernel_rfl
set_option maxRecDepth 100000 in
theorem TH : ((Rows.commitFillsRow.named == Tryz.prog.varsNamed 5)) = true := by kernel_rfl
set_option maxRecDepth 100000 in
theorem TG : ((Rows.commitFillsRow.plainKeys == Tryz.prog.plainKeys)) = true := by kernel_rfl
set_option maxRecDepth 100000 in
theorem TF : (Tryz.prog.stopsHeard) = true := by kernel_rfl
set_option maxRecDepth 100000 in
theorem TE : (Tryz.prog.mayEnter) = true := by kernel_rfl
set_option maxRecDepth 100000 in
theorem TC : ((Rows.commitFillsRow.lifted == Tryz.prog.liftsFinal)) = true := by kernel_rfl
set_option maxRecDepth 100000 in
theorem Rh : ((Tryz.prog.make == some Rows.commitFillsRow.make)) = true := by kernel_rfl
set_option maxRecDepth 100000 in
theorem Ml : joinedFacts Tryz.prog 5 Tryz.f5 Rows.commitFillsSpec Rows.commitFillsRow = true := by
  unfold joinedFacts;rw [TM, TL, TK, TJ, TI, TH, TG, TF, TE, TC, Rh];kernel_rfl
theorem PI : Rows.CommitFillsSaid :=
  OpenClaim.holds_of_wide 5 Tryz.f5 rfl rfl rfl rfl rfl rfl rfl tA rfl rfl rfl rfl rfl (by kernel_rfl) Tryz.func5 Ml
    (of_decide_eq_true (by kernel_rfl)) (by unfold Func.isWrapper; first | (rw [if_pos (by decide +kernel)]; kernel_rfl) | (rw [if_neg (by decide +kernel)]; exact tA))
    (fun os started H enc _ => Mk os started H enc)
theorem VY : false = Rows.commitFillsRow.goesBy Tryz.prog := by kernel_rfl
theorem cfills_holds : Rows.CommitFillsCardSaid :=
  Claim7.holds_tied_plain_at .later [] [.data, .pinned] true (true, "b49440227ae96ef30e6cb25abc95775e5671281748070785d4d572a7869c8a23") true
    PI (fun _ h => by cases h) (by kernel_rfl) (fun _ h => by cases h) commitFills_row_tie rfl tA (by kernel_rfl) rfl
    (fun f fn hf hfn => by
      obtain rfl : f = 5 := Option.some.inj ((show Tryz.prog.funcNamed "casemate/casematelaw23.CommitFills" = some 5 by kernel_rfl).symm.trans hf) |>.symm
      obtain rfl : fn = Tryz.f5 := (Option.some.inj (Tryz.func5.symm.trans hfn)).symm;exact ⟨by kernel_rfl, fun j t ht => by
        rw [Tryz.params5] at ht;have hm : t ∈ [3, 3, 3, 35] := by
          have := Array.mem_of_getElem? ht;first | (simp at this ⊢; omega) | simpa using this
        have hall : ([3, 3, 3, 35].all fun u => !Tryz.prog.wantsStandIn u) = true := by kernel_rfl
        exact (show Tryz.prog.wantsStandIn t = false by simpa using Au.1 hall t hm)⟩)
    VY
end Go.Proofs.YtepdhdfoipephaaGreatDoor
