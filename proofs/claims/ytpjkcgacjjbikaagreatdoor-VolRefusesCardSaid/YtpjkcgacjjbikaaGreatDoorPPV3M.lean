/-
The law VolRefuses of package casematelaw26 answers true at every input and leaves its input as it was (the card ties utf8's two tables to the program's text).
-/
import Derived.Test.YtpjkcgacjjbikaaGreatDoorPPV3P5
import Derived.Test.YtpjkcgacjjbikaaGreatDoorCards
import Derived.Test.YtpjkcgacjjbikaaGreatDoorTie
namespace Go.Proofs.YtpjkcgacjjbikaaGreatDoor
open Go.ChangeShapes Go.WideShapes Go.ChangeAt Go.RowKit

theorem Im {H : Type} {enc : TypeId × Value → H} {P : Program} {w : World} {base : Nat} {spare : Nat → Bool} {held : Bool} {t0 t1 t2 t3 t4 t5 t6 t7 : TypeId} {args : Array Value} {ds : List (DataW H)} {ps : List MemPlace} (h : DataW.TrodAll enc P w base spare held [t0, t1, t2, t3, t4, t5, t6, t7] args.toList ds ps) :
    ∃ v0 v1 v2 v3 v4 v5 v6 v7 d0 d1 d2 d3 d4 d5 d6 d7 p0 p1 p2 p3 p4 p5 p6 p7, args = #[v0, v1, v2, v3, v4, v5, v6, v7] ∧ ds = [d0, d1, d2, d3, d4, d5, d6, d7] ∧
      DataW.Trod enc P w base spare held t0 v0 d0 p0 ∧ DataW.Trod enc P w base spare held t1 v1 d1 p1 ∧ DataW.Trod enc P w base spare held t2 v2 d2 p2 ∧ DataW.Trod enc P w base spare held t3 v3 d3 p3 ∧ DataW.Trod enc P w base spare held t4 v4 d4 p4 ∧ DataW.Trod enc P w base spare held t5 v5 d5 p5 ∧ DataW.Trod enc P w base spare held t6 v6 d6 p6 ∧ DataW.Trod enc P w base spare held t7 v7 d7 p7 := by
  obtain ⟨v0, vs0, d0, ds0, p0, q0, ha, rfl, rfl, h0, r0⟩ := trodAll_cons h;obtain ⟨v1, vs1, d1, ds1, p1, q1, rfl, rfl, rfl, h1, r1⟩ := trodAll_cons r0;obtain ⟨v2, vs2, d2, ds2, p2, q2, rfl, rfl, rfl, h2, r2⟩ := trodAll_cons r1;obtain ⟨v3, vs3, d3, ds3, p3, q3, rfl, rfl, rfl, h3, r3⟩ := trodAll_cons r2;obtain ⟨v4, vs4, d4, ds4, p4, q4, rfl, rfl, rfl, h4, r4⟩ := trodAll_cons r3;obtain ⟨v5, vs5, d5, ds5, p5, q5, rfl, rfl, rfl, h5, r5⟩ := trodAll_cons r4;obtain ⟨v6, vs6, d6, ds6, p6, q6, rfl, rfl, rfl, h6, r6⟩ := trodAll_cons r5;obtain ⟨v7, vs7, d7, ds7, p7, q7, rfl, rfl, rfl, h7, r7⟩ := trodAll_cons r6;obtain ⟨rfl, rfl, rfl⟩ := trodAll_nil r7;exact ⟨v0, v1, v2, v3, v4, v5, v6, v7, d0, d1, d2, d3, d4, d5, d6, d7, p0, p1, p2, p3, p4, p5, p6, p7, by cases args; simp_all, rfl, h0, h1, h2, h3, h4, h5, h6, h7⟩

theorem KB (os : Os) (args : Array Value) : laidMetH Tryz.prog Rows.volRefusesRow.laid ((JQ os).forCall (fun _ _ => 0) ⟨#[], args, []⟩).memory := Vr os args

set_option maxRecDepth 100000 in
theorem IT (os : Os) (started : os.Started) (H : Type) (enc : TypeId × Value → H) :
    ReturnsInHanded {} Tryz.checked os 6 .any (fun w args => (Rows.volRefusesSpec.pre enc Tryz.prog Tryz.f6 [] false w args ∧ laidMetH Tryz.prog Rows.volRefusesRow.laid w) ∧ sizedMet enc Tryz.prog Tryz.f6 (OpenSpec.ofChange Rows.volRefusesSpec) false w args)
      (Rows.volRefusesSpec.post enc Tryz.prog Tryz.f6 false true false false) := by
  refine returnsInHanded_of_change_and (C := Tryz.checked) (X := fun w _ => laidMetH Tryz.prog Rows.volRefusesRow.laid w) (fun _ _ _ hh h => h.of_heap hh) own_none started (by kernel_rfl) Tryz.func6
    (ChangeSpec.witness_at (enc := enc) (C := Tryz.checked) (os := os) (X := fun w _ => laidMetH Tryz.prog Rows.volRefusesRow.laid w) false (JQ os) #[.int .i64 0, .int .i64 0, .int .i64 0, .int .i64 0, .int .i64 0, .int .i64 0, .int .i64 0, .slice none 0 0] 8 rfl (by kernel_rfl) (by kernel_rfl) (by kernel_rfl) (by kernel_rfl) (by kernel_rfl) (KB os _)) ?_
  intro W base args ds gs before hval0 hW _ _ hL _;have hval : ∀ (j : Nat) t v, Tryz.f6.params[j]? = some t → args[j]? = some v → Value.okWide Tryz.prog W .any base t v := hval0;have hW' := hW;obtain ⟨p, q, hA0, hV, rfl, hfz, hnd⟩ := hW;have hA : DataW.TrodAll enc Tryz.prog W 0 (fun _ => true) true Tryz.f6.params.toList args.toList ds p := hA0;rw [Tryz.params6] at hA hval;obtain ⟨v0, v1, v2, v3, v4, v5, v6, v7, d0, d1, d2, d3, d4, d5, d6, d7, p0, p1, p2, p3, p4, p5, p6, p7, rfl, rfl, h0, h1, h2, h3, h4, h5, h6, h7⟩ := Im hA;obtain ⟨rfl, rfl⟩ := trodVars_none hV;obtain ⟨x0, rfl, rfl, rfl, wf0⟩ := open_int Tryz.underlying3 (hval 0 3 v0 rfl rfl) h0;have e0 : A.Rd (.v (.int .i64 x0)) (A.H6 W) (.int .i64 x0) := A.JI _;obtain ⟨x1, rfl, rfl, rfl, wf1⟩ := open_int Tryz.underlying3 (hval 1 3 v1 rfl rfl) h1;have e1 : A.Rd (.v (.int .i64 x1)) (A.H6 W) (.int .i64 x1) := A.JI _;obtain ⟨x2, rfl, rfl, rfl, wf2⟩ := open_int Tryz.underlying3 (hval 2 3 v2 rfl rfl) h2;have e2 : A.Rd (.v (.int .i64 x2)) (A.H6 W) (.int .i64 x2) := A.JI _;obtain ⟨x3, rfl, rfl, rfl, wf3⟩ := open_int Tryz.underlying3 (hval 3 3 v3 rfl rfl) h3;have e3 : A.Rd (.v (.int .i64 x3)) (A.H6 W) (.int .i64 x3) := A.JI _;obtain ⟨x4, rfl, rfl, rfl, wf4⟩ := open_int Tryz.underlying3 (hval 4 3 v4 rfl rfl) h4;have e4 : A.Rd (.v (.int .i64 x4)) (A.H6 W) (.int .i64 x4) := A.JI _;obtain ⟨x5, rfl, rfl, rfl, wf5⟩ := open_int Tryz.underlying3 (hval 5 3 v5 rfl rfl) h5;have e5 : A.Rd (.v (.int .i64 x5)) (A.H6 W) (.int .i64 x5) := A.JI _;obtain ⟨x6, rfl, rfl, rfl, wf6⟩ := open_int Tryz.underlying3 (hval 6 3 v6 rfl rfl) h6;have e6 : A.Rd (.v (.int .i64 x6)) (A.H6 W) (.int .i64 x6) := A.JI _;obtain ⟨s7, sl7, sc7, rfl⟩ := okWide_slice Tryz.underlying22 (hval 7 22 v7 rfl rfl);obtain ⟨_, ⟨x7, rfl⟩, e7⟩ := A.XO A.oBy rfl h7;replace e7 := A.WS e7;have htab : A.globOk W := Tw hL;refine ((A.MJ x0 x1 x2 x3 x4 x5 x6 x7).anyV W htab [.int .i64 x0, .int .i64 x1, .int .i64 x2, .int .i64 x3, .int .i64 x4, .int .i64 x5, .int .i64 x6, .slice s7 sl7 sc7] ?_).mono fun e W' ⟨he, hw⟩ => ?_
  · simp only [A.RdL];exact ⟨_, _, rfl, e0, ⟨_, _, rfl, e1, ⟨_, _, rfl, e2, ⟨_, _, rfl, e3, ⟨_, _, rfl, e4, ⟨_, _, rfl, e5, ⟨_, _, rfl, e6, ⟨_, _, rfl, e7, rfl⟩⟩⟩⟩⟩⟩⟩⟩
  · subst he;exact ⟨_, rfl, Vp hW' rfl rfl rfl rfl rfl (by decide +kernel) hw⟩

set_option maxRecDepth 100000 in
theorem MI : (laidOutB Tryz.prog) = true := by kernel_rfl
set_option maxRecDepth 100000 in
theorem MH : (mapsRowed Tryz.prog) = true := by kernel_rfl
set_option maxRecDepth 100000 in
theorem MG : ((Rows.volRefusesRow.inPlace == Tryz.prog.inPlace 6)) = true := by kernel_rfl
set_option maxRecDepth 100000 in
theorem MF : ((Rows.volRefusesRow.unfollowed == Tryz.prog.unfollowed 6)) = true := by kernel_rfl
set_option maxRecDepth 100000 in
theorem ME : ((Rows.volRefusesRow.recurses == Tryz.prog.recurses 6)) = true := by kernel_rfl
set_option maxRecDepth 100000 in
theorem MD : ((Rows.volRefusesRow.named == Tryz.prog.varsNamed 6)) = true := by kernel_rfl
set_option maxRecDepth 100000 in
theorem MC : ((Rows.volRefusesRow.plainKeys == Tryz.prog.plainKeys)) = true := by kernel_rfl
set_option maxRecDepth 100000 in
theorem MB : (Tryz.prog.stopsHeard) = true := by kernel_rfl
set_option maxRecDepth 100000 in
theorem MA : (Tryz.prog.mayEnter) = true := by kernel_rfl
set_option maxRecDepth 100000 in
theorem M9 : ((Rows.volRefusesRow.lifted == Tryz.prog.liftsFinal)) = true := by kernel_rfl
set_option maxRecDepth 100000 in
theorem KZ : ((Tryz.prog.make == some Rows.volRefusesRow.make)) = true := by kernel_rfl
set_option maxRecDepth 100000 in
theorem IU : joinedFacts Tryz.prog 6 Tryz.f6 Rows.volRefusesSpec Rows.volRefusesRow = true := by
  unfold joinedFacts;rw [MI, MH, MG, MF, ME, MD, MC, MB, MA, M9, KZ];kernel_rfl
theorem KA : Rows.VolRefusesSaid :=
  OpenClaim.holds_of_wide 6 Tryz.f6 rfl rfl rfl rfl rfl rfl rfl tA rfl rfl rfl rfl rfl (by kernel_rfl) Tryz.func6 IU
    (of_decide_eq_true (by kernel_rfl)) (by unfold Func.isWrapper; first | (rw [if_pos (by decide +kernel)]; kernel_rfl) | (rw [if_neg (by decide +kernel)]; exact tA))
    (fun os started H enc _ => IT os started H enc)
theorem NL : false = Rows.volRefusesRow.goesBy Tryz.prog := by kernel_rfl
theorem volrefuses_holds : Rows.VolRefusesCardSaid :=
  Claim7.holds_tied_plain_at .later [] [.data, .pinned] true (true, "6db604321c5ea5e0522bc7594e199205d3f76e1bb5eb1dacd5dbc2e27712a50d") true
    KA (fun _ h => by cases h) (by kernel_rfl) (fun _ h => by cases h) volRefuses_row_tie rfl tA (by kernel_rfl) rfl
    (fun f fn hf hfn => by
      obtain rfl : f = 6 := Option.some.inj ((show Tryz.prog.funcNamed "casemate/casematelaw26.VolRefuses" = some 6 by kernel_rfl).symm.trans hf) |>.symm
      obtain rfl : fn = Tryz.f6 := (Option.some.inj (Tryz.func6.symm.trans hfn)).symm;exact ⟨by kernel_rfl, fun j t ht => by
        rw [Tryz.params6] at ht;have hm : t ∈ [3, 3, 3, 3, 3, 3, 3, 22] := by
          have := Array.mem_of_getElem? ht;first | (simp at this ⊢; omega) | simpa using this
        have hall : ([3, 3, 3, 3, 3, 3, 3, 22].all fun u => !Tryz.prog.wantsStandIn u) = true := by kernel_rfl
        exact (show Tryz.prog.wantsStandIn t = false by simpa using Au.1 hall t hm)⟩)
    NL
end Go.Proofs.YtpjkcgacjjbikaaGreatDoor
