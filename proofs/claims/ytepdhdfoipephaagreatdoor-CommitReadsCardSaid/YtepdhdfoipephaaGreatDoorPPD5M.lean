/-
The law CommitReads of package casematelaw23 answers true at every input and leaves its input as it was (the card ties utf8's two tables to the program's text).
-/
import Derived.Test.YtepdhdfoipephaaGreatDoorPPD5P6
import Derived.Test.YtepdhdfoipephaaGreatDoorCards
import Derived.Test.YtepdhdfoipephaaGreatDoorTie
namespace Go.Proofs.YtepdhdfoipephaaGreatDoor
open Go.ChangeShapes Go.WideShapes Go.ChangeAt Go.RowKit

theorem Lj {H : Type} {enc : TypeId × Value → H} {P : Program} {w : World} {base : Nat} {spare : Nat → Bool} {held : Bool} {t0 t1 t2 t3 : TypeId} {args : Array Value} {ds : List (DataW H)} {ps : List MemPlace} (h : DataW.TrodAll enc P w base spare held [t0, t1, t2, t3] args.toList ds ps) :
    ∃ v0 v1 v2 v3 d0 d1 d2 d3 p0 p1 p2 p3, args = #[v0, v1, v2, v3] ∧ ds = [d0, d1, d2, d3] ∧
      DataW.Trod enc P w base spare held t0 v0 d0 p0 ∧ DataW.Trod enc P w base spare held t1 v1 d1 p1 ∧ DataW.Trod enc P w base spare held t2 v2 d2 p2 ∧ DataW.Trod enc P w base spare held t3 v3 d3 p3 := by
  obtain ⟨v0, vs0, d0, ds0, p0, q0, ha, rfl, rfl, h0, r0⟩ := trodAll_cons h;obtain ⟨v1, vs1, d1, ds1, p1, q1, rfl, rfl, rfl, h1, r1⟩ := trodAll_cons r0;obtain ⟨v2, vs2, d2, ds2, p2, q2, rfl, rfl, rfl, h2, r2⟩ := trodAll_cons r1;obtain ⟨v3, vs3, d3, ds3, p3, q3, rfl, rfl, rfl, h3, r3⟩ := trodAll_cons r2;obtain ⟨rfl, rfl, rfl⟩ := trodAll_nil r3;exact ⟨v0, v1, v2, v3, d0, d1, d2, d3, p0, p1, p2, p3, by cases args; simp_all, rfl, h0, h1, h2, h3⟩

theorem Q0 (os : Os) (args : Array Value) : laidMetH Tryz.prog Rows.commitReadsRow.laid ((Kv os).forCall (fun _ _ => 0) ⟨#[], args, []⟩).memory := WJ os args

set_option maxRecDepth 100000 in
theorem Na (os : Os) (started : os.Started) (H : Type) (enc : TypeId × Value → H) :
    ReturnsInHanded {} Tryz.checked os 3 .any (fun w args => (Rows.commitReadsSpec.pre enc Tryz.prog Tryz.f3 [] false w args ∧ laidMetH Tryz.prog Rows.commitReadsRow.laid w) ∧ sizedMet enc Tryz.prog Tryz.f3 (OpenSpec.ofChange Rows.commitReadsSpec) false w args)
      (Rows.commitReadsSpec.post enc Tryz.prog Tryz.f3 false true false false) := by
  refine returnsInHanded_of_change_and (C := Tryz.checked) (X := fun w _ => laidMetH Tryz.prog Rows.commitReadsRow.laid w) (fun _ _ _ hh h => h.of_heap hh) own_none started (by kernel_rfl) Tryz.func3
    (ChangeSpec.witness_at (enc := enc) (C := Tryz.checked) (os := os) (X := fun w _ => laidMetH Tryz.prog Rows.commitReadsRow.laid w) false (Kv os) #[.agg #[.int .i64 0, .int .i64 0, .int .i64 0, .int .i64 0, .int .i64 0], .slice none 0 0, .slice none 0 0, .int .i64 0] 8 rfl (by kernel_rfl) (by kernel_rfl) (by kernel_rfl) (by kernel_rfl) (by kernel_rfl) (Q0 os _)) ?_
  intro W base args ds gs before hval0 hW _ _ hL _;have hval : ∀ (j : Nat) t v, Tryz.f3.params[j]? = some t → args[j]? = some v → Value.okWide Tryz.prog W .any base t v := hval0;have hW' := hW;obtain ⟨p, q, hA0, hV, rfl, hfz, hnd⟩ := hW;have hA : DataW.TrodAll enc Tryz.prog W 0 (fun _ => true) true Tryz.f3.params.toList args.toList ds p := hA0;rw [Tryz.params3] at hA hval;obtain ⟨v0, v1, v2, v3, d0, d1, d2, d3, p0, p1, p2, p3, rfl, rfl, h0, h1, h2, h3⟩ := Lj hA;obtain ⟨rfl, rfl⟩ := trodVars_none hV;obtain ⟨cs0, rfl, -⟩ := okWide_struct Tryz.underlying23 (hval 0 23 v0 rfl rfl);obtain ⟨_, ⟨x0, rfl⟩, e0⟩ := A.Zc A.oGeo h0;obtain ⟨s1, sl1, sc1, rfl⟩ := okWide_slice Tryz.underlying24 (hval 1 24 v1 rfl rfl);obtain ⟨_, ⟨x1, rfl⟩, e1⟩ := A.Tc A.oQ2s rfl h1;replace e1 := A.SA e1;obtain ⟨s2, sl2, sc2, rfl⟩ := okWide_slice Tryz.underlying25 (hval 2 25 v2 rfl rfl);obtain ⟨_, ⟨x2, rfl⟩, e2⟩ := A.Tc A.oQ4s rfl h2;replace e2 := A.SA e2;obtain ⟨x3, rfl, rfl, rfl, wf3⟩ := open_int Tryz.underlying3 (hval 3 3 v3 rfl rfl) h3;have e3 : A.Rd (.v (.int .i64 x3)) (A.K3 W) (.int .i64 x3) := A.Wm _;have htab : A.globOk W := Uk hL;refine ((A.UV x0 x1 x2 x3).anyV W htab [.agg cs0, .slice s1 sl1 sc1, .slice s2 sl2 sc2, .int .i64 x3] ?_).mono fun e W' ⟨he, hw⟩ => ?_
  · simp only [A.RdL];exact ⟨_, _, rfl, e0, ⟨_, _, rfl, e1, ⟨_, _, rfl, e2, ⟨_, _, rfl, e3, rfl⟩⟩⟩⟩
  · subst he;exact ⟨_, rfl, WH hW' rfl rfl rfl rfl rfl (by decide +kernel) hw⟩

set_option maxRecDepth 100000 in
theorem UU : (laidOutB Tryz.prog) = true := by kernel_rfl
set_option maxRecDepth 100000 in
theorem UT : (mapsRowed Tryz.prog) = true := by kernel_rfl
set_option maxRecDepth 100000 in
theorem US : ((Rows.commitReadsRow.inPlace == Tryz.prog.inPlace 3)) = true := by kernel_rfl
set_option maxRecDepth 100000 in
theorem UR : ((Rows.commitReadsRow.unfollowed == Tryz.prog.unfollowed 3)) = true := by kernel_rfl
set_option maxRecDepth 100000 in
theorem UQ : ((Rows.commitReadsRow.recurses == Tryz.prog.recurses 3)) = true := by kernel_rfl
set_option maxRecDepth 100000 in
theorem UP : ((Rows.commitReadsRow.named == Tryz.prog.varsNamed 3)) = true := by kernel_rfl
set_option maxRecDepth 100000 in
theorem UO : ((Rows.commitReadsRow.plainKeys == Tryz.prog.plainKeys)) = true := by kernel_rfl
set_option maxRecDepth 100000 in
theorem UN : (Tryz.prog.stopsHeard) = true := by kernel_rfl
set_option maxRecDepth 100000 in
theorem UM : (Tryz.prog.mayEnter) = true := by kernel_rfl
set_option maxRecDepth 100000 in
theorem UL : ((Rows.commitReadsRow.lifted == Tryz.prog.liftsFinal)) = true := by kernel_rfl
set_option maxRecDepth 100000 in
theorem RX : ((Tryz.prog.make == some Rows.commitReadsRow.make)) = true := by kernel_rfl
set_option maxRecDepth 100000 in
theorem Nb : joinedFacts Tryz.prog 3 Tryz.f3 Rows.commitReadsSpec Rows.commitReadsRow = true := by
  unfold joinedFacts;rw [UU, UT, US, UR, UQ, UP, UO, UN, UM, UL, RX];kernel_rfl
theorem Qz : Rows.CommitReadsSaid :=
  OpenClaim.holds_of_wide 3 Tryz.f3 rfl rfl rfl rfl rfl rfl rfl tA rfl rfl rfl rfl rfl (by kernel_rfl) Tryz.func3 Nb
    (of_decide_eq_true (by kernel_rfl)) (by unfold Func.isWrapper; first | (rw [if_pos (by decide +kernel)]; kernel_rfl) | (rw [if_neg (by decide +kernel)]; exact tA))
    (fun os started H enc _ => Na os started H enc)
theorem Xs : false = Rows.commitReadsRow.goesBy Tryz.prog := by kernel_rfl
theorem creads_holds : Rows.CommitReadsCardSaid :=
  Claim7.holds_tied_plain_at .later [] [.data, .pinned] true (true, "b49440227ae96ef30e6cb25abc95775e5671281748070785d4d572a7869c8a23") true
    Qz (fun _ h => by cases h) (by kernel_rfl) (fun _ h => by cases h) commitReads_row_tie rfl tA (by kernel_rfl) rfl
    (fun f fn hf hfn => by
      obtain rfl : f = 3 := Option.some.inj ((show Tryz.prog.funcNamed "casemate/casematelaw23.CommitReads" = some 3 by kernel_rfl).symm.trans hf) |>.symm
      obtain rfl : fn = Tryz.f3 := (Option.some.inj (Tryz.func3.symm.trans hfn)).symm;exact ⟨by kernel_rfl, fun j t ht => by
        rw [Tryz.params3] at ht;have hm : t ∈ [23, 24, 25, 3] := by
          have := Array.mem_of_getElem? ht;first | (simp at this ⊢; omega) | simpa using this
        have hall : ([23, 24, 25, 3].all fun u => !Tryz.prog.wantsStandIn u) = true := by kernel_rfl
        exact (show Tryz.prog.wantsStandIn t = false by simpa using Av.1 hall t hm)⟩)
    Xs
end Go.Proofs.YtepdhdfoipephaaGreatDoor
