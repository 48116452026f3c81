/-
The law CommitKeeps of package casematelaw23 answers true at every input and leaves its input as it was (the card ties utf8's two tables to the program's text).
-/
import Derived.Test.YtepdhdfoipephaaGreatDoorPPD4P6
import Derived.Test.YtepdhdfoipephaaGreatDoorPPD4P5
import Derived.Test.YtepdhdfoipephaaGreatDoorCards
import Derived.Test.YtepdhdfoipephaaGreatDoorTie
namespace Go.Proofs.YtepdhdfoipephaaGreatDoor
open Go.ChangeShapes Go.WideShapes Go.ChangeAt Go.RowKit

theorem KX {H : Type} {enc : TypeId × Value → H} {P : Program} {w : World} {base : Nat} {spare : Nat → Bool} {held : Bool} {t0 t1 t2 t3 : TypeId} {args : Array Value} {ds : List (DataW H)} {ps : List MemPlace} (h : DataW.TrodAll enc P w base spare held [t0, t1, t2, t3] args.toList ds ps) :
    ∃ v0 v1 v2 v3 d0 d1 d2 d3 p0 p1 p2 p3, args = #[v0, v1, v2, v3] ∧ ds = [d0, d1, d2, d3] ∧
      DataW.Trod enc P w base spare held t0 v0 d0 p0 ∧ DataW.Trod enc P w base spare held t1 v1 d1 p1 ∧ DataW.Trod enc P w base spare held t2 v2 d2 p2 ∧ DataW.Trod enc P w base spare held t3 v3 d3 p3 := by
  obtain ⟨v0, vs0, d0, ds0, p0, q0, ha, rfl, rfl, h0, r0⟩ := trodAll_cons h;obtain ⟨v1, vs1, d1, ds1, p1, q1, rfl, rfl, rfl, h1, r1⟩ := trodAll_cons r0;obtain ⟨v2, vs2, d2, ds2, p2, q2, rfl, rfl, rfl, h2, r2⟩ := trodAll_cons r1;obtain ⟨v3, vs3, d3, ds3, p3, q3, rfl, rfl, rfl, h3, r3⟩ := trodAll_cons r2;obtain ⟨rfl, rfl, rfl⟩ := trodAll_nil r3;exact ⟨v0, v1, v2, v3, d0, d1, d2, d3, p0, p1, p2, p3, by cases args; simp_all, rfl, h0, h1, h2, h3⟩

theorem QB (os : Os) (args : Array Value) : laidMetH Tryz.prog Rows.commitKeepsRow.laid ((Kn os).forCall (fun _ _ => 0) ⟨#[], args, []⟩).memory := W5 os args

set_option maxRecDepth 100000 in
theorem MW (os : Os) (started : os.Started) (H : Type) (enc : TypeId × Value → H) :
    ReturnsInHanded {} Tryz.checked os 4 .any (fun w args => (Rows.commitKeepsSpec.pre enc Tryz.prog Tryz.f4 [] false w args ∧ laidMetH Tryz.prog Rows.commitKeepsRow.laid w) ∧ sizedMet enc Tryz.prog Tryz.f4 (OpenSpec.ofChange Rows.commitKeepsSpec) false w args)
      (Rows.commitKeepsSpec.post enc Tryz.prog Tryz.f4 false true false false) := by
  refine returnsInHanded_of_change_and (C := Tryz.checked) (X := fun w _ => laidMetH Tryz.prog Rows.commitKeepsRow.laid w) (fun _ _ _ hh h => h.of_heap hh) own_none started (by kernel_rfl) Tryz.func4
    (ChangeSpec.witness_at (enc := enc) (C := Tryz.checked) (os := os) (X := fun w _ => laidMetH Tryz.prog Rows.commitKeepsRow.laid w) false (Kn os) #[.agg #[.int .i64 0, .int .i64 0, .int .i64 0, .int .i64 0, .int .i64 0], .slice none 0 0, .slice none 0 0, .int .i64 0] 8 rfl (by kernel_rfl) (by kernel_rfl) (by kernel_rfl) (by kernel_rfl) (by kernel_rfl) (QB os _)) ?_
  intro W base args ds gs before hval0 hW _ _ hL _;have hval : ∀ (j : Nat) t v, Tryz.f4.params[j]? = some t → args[j]? = some v → Value.okWide Tryz.prog W .any base t v := hval0;have hW' := hW;obtain ⟨p, q, hA0, hV, rfl, hfz, hnd⟩ := hW;have hA : DataW.TrodAll enc Tryz.prog W 0 (fun _ => true) true Tryz.f4.params.toList args.toList ds p := hA0;rw [Tryz.params4] at hA hval;obtain ⟨v0, v1, v2, v3, d0, d1, d2, d3, p0, p1, p2, p3, rfl, rfl, h0, h1, h2, h3⟩ := KX hA;obtain ⟨rfl, rfl⟩ := trodVars_none hV;obtain ⟨cs0, rfl, -⟩ := okWide_struct Tryz.underlying23 (hval 0 23 v0 rfl rfl);obtain ⟨_, ⟨x0, rfl⟩, e0⟩ := A.YR A.oGeo h0;obtain ⟨s1, sl1, sc1, rfl⟩ := okWide_slice Tryz.underlying24 (hval 1 24 v1 rfl rfl);obtain ⟨_, ⟨x1, rfl⟩, e1⟩ := A.Th A.oQ2s rfl h1;replace e1 := A.SE e1;obtain ⟨s2, sl2, sc2, rfl⟩ := okWide_slice Tryz.underlying35 (hval 2 35 v2 rfl rfl);obtain ⟨_, ⟨x2, rfl⟩, e2⟩ := A.Th A.oIs rfl h2;replace e2 := A.SE e2;obtain ⟨x3, rfl, rfl, rfl, wf3⟩ := open_int Tryz.underlying3 (hval 3 3 v3 rfl rfl) h3;have e3 : A.Rd (.v (.int .i64 x3)) (A.Kx W) (.int .i64 x3) := A.Wa _;have htab : A.globOk W := Ug hL;refine ((A.UR x0 x1 x2 x3).anyV W htab [.agg cs0, .slice s1 sl1 sc1, .slice s2 sl2 sc2, .int .i64 x3] ?_).mono fun e W' ⟨he, hw⟩ => ?_
  · simp only [A.RdL];exact ⟨_, _, rfl, e0, ⟨_, _, rfl, e1, ⟨_, _, rfl, e2, ⟨_, _, rfl, e3, rfl⟩⟩⟩⟩
  · subst he;exact ⟨_, rfl, W0 hW' rfl rfl rfl rfl rfl (by decide +kernel) hw⟩

set_option maxRecDepth 100000 in
theorem UQ : (laidOutB Tryz.prog) = true := by kernel_rfl
set_option maxRecDepth 100000 in
theorem UP : (mapsRowed Tryz.prog) = true := by kernel_rfl
set_option maxRecDepth 100000 in
theorem UO : ((Rows.commitKeepsRow.inPlace == Tryz.prog.inPlace 4)) = true := by kernel_rfl
set_option maxRecDepth 100000 in
theorem UN : ((Rows.commitKeepsRow.unfollowed == Tryz.prog.unfollowed 4)) = true := by kernel_rfl
set_option maxRecDepth 100000 in
theorem UM : ((Rows.commitKeepsRow.recurses == Tryz.prog.recurses 4)) = true := by kernel_rfl
set_option maxRecDepth 100000 in
theorem UL : ((Rows.commitKeepsRow.named == Tryz.prog.varsNamed 4)) = true := by kernel_rfl
set_option maxRecDepth 100000 in
theorem UK : ((Rows.commitKeepsRow.plainKeys == Tryz.prog.plainKeys)) = true := by kernel_rfl
set_option maxRecDepth 100000 in
theorem UJ : (Tryz.prog.stopsHeard) = true := by kernel_rfl
set_option maxRecDepth 100000 in
theorem UI : (Tryz.prog.mayEnter) = true := by kernel_rfl
set_option maxRecDepth 100000 in
theorem UH : ((Rows.commitKeepsRow.lifted == Tryz.prog.liftsFinal)) = true := by kernel_rfl
set_option maxRecDepth 100000 in
theorem Se : ((Tryz.prog.make == some Rows.commitKeepsRow.make)) = true := by kernel_rfl
set_option maxRecDepth 100000 in
theorem MX : joinedFacts Tryz.prog 4 Tryz.f4 Rows.commitKeepsSpec Rows.commitKeepsRow = true := by
  unfold joinedFacts;rw [UQ, UP, UO, UN, UM, UL, UK, UJ, UI, UH, Se];kernel_rfl
theorem Q9 : Rows.CommitKeepsSaid :=
  OpenClaim.holds_of_wide 4 Tryz.f4 rfl rfl rfl rfl rfl rfl rfl tA rfl rfl rfl rfl rfl (by kernel_rfl) Tryz.func4 MX
    (of_decide_eq_true (by kernel_rfl)) (by unfold Func.isWrapper; first | (rw [if_pos (by decide +kernel)]; kernel_rfl) | (rw [if_neg (by decide +kernel)]; exact tA))
    (fun os started H enc _ => MW os started H enc)
theorem Xh : false = Rows.commitKeepsRow.goesBy Tryz.prog := by kernel_rfl
theorem ckeeps_holds : Rows.CommitKeepsCardSaid :=
  Claim7.holds_tied_plain_at .later [] [.data, .pinned] true (true, "b49440227ae96ef30e6cb25abc95775e5671281748070785d4d572a7869c8a23") true
    Q9 (fun _ h => by cases h) (by kernel_rfl) (fun _ h => by cases h) commitKeeps_row_tie rfl tA (by kernel_rfl) rfl
    (fun f fn hf hfn => by
      obtain rfl : f = 4 := Option.some.inj ((show Tryz.prog.funcNamed "casemate/casematelaw23.CommitKeeps" = some 4 by kernel_rfl).symm.trans hf) |>.symm
      obtain rfl : fn = Tryz.f4 := (Option.some.inj (Tryz.func4.symm.trans hfn)).symm;exact ⟨by kernel_rfl, fun j t ht => by
        rw [Tryz.params4] at ht;have hm : t ∈ [23, 24, 35, 3] := by
          have := Array.mem_of_getElem? ht;first | (simp at this ⊢; omega) | simpa using this
        have hall : ([23, 24, 35, 3].all fun u => !Tryz.prog.wantsStandIn u) = true := by kernel_rfl
        exact (show Tryz.prog.wantsStandIn t = false by simpa using Au.1 hall t hm)⟩)
    Xh
end Go.Proofs.YtepdhdfoipephaaGreatDoor
