/-
The law BootMounts of package casematelaw22 answers true at every input and leaves its input as it was (the card ties utf8's two tables to the program's text).
-/
import Derived.Test.YtldngmdpiifamaaGreatDoorPPB1P5
import Derived.Test.YtldngmdpiifamaaGreatDoorCards
import Derived.Test.YtldngmdpiifamaaGreatDoorTie
namespace Go.Proofs.YtldngmdpiifamaaGreatDoor
open Go.ChangeShapes Go.WideShapes Go.ChangeAt Go.RowKit

theorem IX {H : Type} {enc : TypeId × Value → H} {P : Program} {w : World} {base : Nat} {spare : Nat → Bool} {held : Bool} {t0 t1 t2 t3 t4 t5 : TypeId} {args : Array Value} {ds : List (DataW H)} {ps : List MemPlace} (h : DataW.TrodAll enc P w base spare held [t0, t1, t2, t3, t4, t5] args.toList ds ps) :
    ∃ v0 v1 v2 v3 v4 v5 d0 d1 d2 d3 d4 d5 p0 p1 p2 p3 p4 p5, args = #[v0, v1, v2, v3, v4, v5] ∧ ds = [d0, d1, d2, d3, d4, d5] ∧
      DataW.Trod enc P w base spare held t0 v0 d0 p0 ∧ DataW.Trod enc P w base spare held t1 v1 d1 p1 ∧ DataW.Trod enc P w base spare held t2 v2 d2 p2 ∧ DataW.Trod enc P w base spare held t3 v3 d3 p3 ∧ DataW.Trod enc P w base spare held t4 v4 d4 p4 ∧ DataW.Trod enc P w base spare held t5 v5 d5 p5 := by
  obtain ⟨v0, vs0, d0, ds0, p0, q0, ha, rfl, rfl, h0, r0⟩ := trodAll_cons h
  obtain ⟨v1, vs1, d1, ds1, p1, q1, rfl, rfl, rfl, h1, r1⟩ := trodAll_cons r0
  obtain ⟨v2, vs2, d2, ds2, p2, q2, rfl, rfl, rfl, h2, r2⟩ := trodAll_cons r1
  obtain ⟨v3, vs3, d3, ds3, p3, q3, rfl, rfl, rfl, h3, r3⟩ := trodAll_cons r2
  obtain ⟨v4, vs4, d4, ds4, p4, q4, rfl, rfl, rfl, h4, r4⟩ := trodAll_cons r3
  obtain ⟨v5, vs5, d5, ds5, p5, q5, rfl, rfl, rfl, h5, r5⟩ := trodAll_cons r4
  obtain ⟨rfl, rfl, rfl⟩ := trodAll_nil r5
  exact ⟨v0, v1, v2, v3, v4, v5, d0, d1, d2, d3, d4, d5, p0, p1, p2, p3, p4, p5, by cases args; simp_all, rfl, h0, h1, h2, h3, h4, h5⟩

theorem Nf (os : Os) (args : Array Value) : laidMetH Tryz.prog Rows.bootMountsRow.laid ((Jo os).forCall (fun _ _ => 0) ⟨#[], args, []⟩).memory := TQ os args

set_option maxRecDepth 100000 in
theorem Li (os : Os) (started : os.Started) (H : Type) (enc : TypeId × Value → H) :
    ReturnsInHanded {} Tryz.checked os 3 .any (fun w args => (Rows.bootMountsSpec.pre enc Tryz.prog Tryz.f3 [] false w args ∧ laidMetH Tryz.prog Rows.bootMountsRow.laid w) ∧ sizedMet enc Tryz.prog Tryz.f3 (OpenSpec.ofChange Rows.bootMountsSpec) false w args)
      (Rows.bootMountsSpec.post enc Tryz.prog Tryz.f3 false true false false) := by
  refine returnsInHanded_of_change_and (C := Tryz.checked) (X := fun w _ => laidMetH Tryz.prog Rows.bootMountsRow.laid w) (fun _ _ _ hh h => h.of_heap hh) own_none started (by kernel_rfl) Tryz.func3
    (ChangeSpec.witness_at (enc := enc) (C := Tryz.checked) (os := os) (X := fun w _ => laidMetH Tryz.prog Rows.bootMountsRow.laid w) false (Jo os) #[.agg #[.int .i64 0, .int .i64 0, .int .i64 0, .int .i64 0, .int .i64 0], .string ⟨#[]⟩, .slice none 0 0, .int .u8 0, .slice none 0 0, .int .i64 0] 8 rfl (by kernel_rfl) (by kernel_rfl) (by kernel_rfl) (by kernel_rfl) (by kernel_rfl) (Nf os _)) ?_
  intro W base args ds gs before hval0 hW _ _ hL _
  have hval : ∀ (j : Nat) t v, Tryz.f3.params[j]? = some t → args[j]? = some v → Value.okWide Tryz.prog W .any base t v := hval0
  have hW' := hW
  obtain ⟨p, q, hA0, hV, rfl, hfz, hnd⟩ := hW
  have hA : DataW.TrodAll enc Tryz.prog W 0 (fun _ => true) true Tryz.f3.params.toList args.toList ds p := hA0
  rw [Tryz.params3] at hA hval
  obtain ⟨v0, v1, v2, v3, v4, v5, d0, d1, d2, d3, d4, d5, p0, p1, p2, p3, p4, p5, rfl, rfl, h0, h1, h2, h3, h4, h5⟩ := IX hA
  obtain ⟨rfl, rfl⟩ := trodVars_none hV
  obtain ⟨cs0, rfl, -⟩ := okWide_struct Tryz.underlying23 (hval 0 23 v0 rfl rfl)
  obtain ⟨_, ⟨x0, rfl⟩, e0⟩ := A.VV A.oGeo h0
  obtain ⟨x1, rfl, rfl, rfl, wf1⟩ := Go.ChangeMaps.open_string Tryz.underlying9 (hval 1 9 v1 rfl rfl) h1
  have e1 : A.Rd (.v (.string x1)) (A.Id W) (.string x1) := A.M7 _
  obtain ⟨s2, sl2, sc2, rfl⟩ := okWide_slice Tryz.underlying24 (hval 2 24 v2 rfl rfl)
  obtain ⟨_, ⟨x2, rfl⟩, e2⟩ := A.QH A.oIs rfl h2
  replace e2 := A.Qs e2
  obtain ⟨z3, rfl, rfl, rfl, wf3⟩ := open_int Tryz.underlying5 (hval 3 5 v3 rfl rfl) h3
  obtain ⟨x3, rfl⟩ := Xe wf3
  have e3 : A.Rd (.v (.int .u8 x3.toNat)) (A.Id W) (.int .u8 x3.toNat) := A.M7 _
  obtain ⟨s4, sl4, sc4, rfl⟩ := okWide_slice Tryz.underlying25 (hval 4 25 v4 rfl rfl)
  obtain ⟨_, ⟨x4, rfl⟩, e4⟩ := A.QH A.oQ4s rfl h4
  replace e4 := A.Qs e4
  obtain ⟨x5, rfl, rfl, rfl, wf5⟩ := open_int Tryz.underlying3 (hval 5 3 v5 rfl rfl) h5
  have e5 : A.Rd (.v (.int .i64 x5)) (A.Id W) (.int .i64 x5) := A.M7 _
  have htab : A.globOk W := RF hL
  refine ((A.Oc x0 x1 x2 x3 x4 x5 wf1).anyV W htab [.agg cs0, .string x1, .slice s2 sl2 sc2, .int .u8 x3.toNat, .slice s4 sl4 sc4, .int .i64 x5] ?_).mono fun e W' ⟨he, hw⟩ => ?_
  · simp only [A.RdL]
    exact ⟨_, _, rfl, e0, ⟨_, _, rfl, e1, ⟨_, _, rfl, e2, ⟨_, _, rfl, e3, ⟨_, _, rfl, e4, ⟨_, _, rfl, e5, rfl⟩⟩⟩⟩⟩⟩
  · subst he
    exact ⟨_, rfl, TO hW' rfl rfl rfl rfl rfl (by decide +kernel) hw⟩

theorem Nd : Rows.BootMountsSaid :=
  OpenClaim.holds_of_wide 3 Tryz.f3 rfl rfl rfl rfl rfl rfl rfl ⟨rfl, rfl, rfl, rfl, rfl⟩ rfl rfl rfl rfl rfl (by kernel_rfl) Tryz.func3 (by kernel_rfl)
    (of_decide_eq_true (by kernel_rfl)) (by unfold Func.isWrapper; first | (rw [if_pos (by decide +kernel)]; kernel_rfl) | (rw [if_neg (by decide +kernel)]; exact ⟨rfl, rfl⟩))
    (fun os started H enc _ => Li os started H enc)
theorem bmounts_holds : Rows.BootMountsCardSaid :=
  Claim7.holds_tied_plain_at .later [] [.data, .pinned] true (true, "7f4c30e94d4de0a781f96bbc8e18d6b45336d4f6603d87d86d8c1f11b4cafc8e") true
    Nd (fun _ h => by cases h) (by kernel_rfl) (fun _ h => by cases h) bootMounts_row_tie rfl ⟨rfl, rfl⟩ (by kernel_rfl) rfl
    (fun f fn hf hfn => by
      obtain rfl : f = 3 := Option.some.inj ((show Tryz.prog.funcNamed "casemate/casematelaw22.BootMounts" = some 3 by kernel_rfl).symm.trans hf) |>.symm
      obtain rfl : fn = Tryz.f3 := (Option.some.inj (Tryz.func3.symm.trans hfn)).symm
      exact ⟨by kernel_rfl, fun j t ht => by
        rw [Tryz.params3] at ht
        have hm : t ∈ [23, 9, 24, 5, 25, 3] := by
          have := Array.mem_of_getElem? ht
          first | (simp at this ⊢; omega) | simpa using this
        have hall : ([23, 9, 24, 5, 25, 3].all fun u => !Tryz.prog.wantsStandIn u) = true := by kernel_rfl
        exact (show Tryz.prog.wantsStandIn t = false by simpa using A8.1 hall t hm)⟩)
    (by kernel_rfl)
end Go.Proofs.YtldngmdpiifamaaGreatDoor
