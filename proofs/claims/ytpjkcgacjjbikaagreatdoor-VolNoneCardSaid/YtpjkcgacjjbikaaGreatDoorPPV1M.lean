/-
The law VolNone of package casematelaw26 answers true at every input and leaves its input as it was (the card ties utf8's two tables to the program's text).
-/
import Derived.Test.YtpjkcgacjjbikaaGreatDoorPPV1P5
import Derived.Test.YtpjkcgacjjbikaaGreatDoorCards
import Derived.Test.YtpjkcgacjjbikaaGreatDoorTie
namespace Go.Proofs.YtpjkcgacjjbikaaGreatDoor
open Go.ChangeShapes Go.WideShapes Go.ChangeAt Go.RowKit

theorem Jp {H : Type} {enc : TypeId × Value → H} {P : Program} {w : World} {base : Nat} {spare : Nat → Bool} {held : Bool} {t0 : TypeId} {args : Array Value} {ds : List (DataW H)} {ps : List MemPlace} (h : DataW.TrodAll enc P w base spare held [t0] args.toList ds ps) :
    ∃ v0 d0 p0, args = #[v0] ∧ ds = [d0] ∧
      DataW.Trod enc P w base spare held t0 v0 d0 p0 := by
  obtain ⟨v0, vs0, d0, ds0, p0, q0, ha, rfl, rfl, h0, r0⟩ := trodAll_cons h;obtain ⟨rfl, rfl, rfl⟩ := trodAll_nil r0;exact ⟨v0, d0, p0, by cases args; simp_all, rfl, h0⟩

theorem M_ (os : Os) (args : Array Value) : laidMetH Tryz.prog Rows.volNoneRow.laid ((J8 os).forCall (fun _ _ => 0) ⟨#[], args, []⟩).memory := UD os args

set_option maxRecDepth 100000 in
theorem K8 (os : Os) (started : os.Started) (H : Type) (enc : TypeId × Value → H) :
    ReturnsInHanded {} Tryz.checked os 9 .any (fun w args => (Rows.volNoneSpec.pre enc Tryz.prog Tryz.f9 [] false w args ∧ laidMetH Tryz.prog Rows.volNoneRow.laid w) ∧ sizedMet enc Tryz.prog Tryz.f9 (OpenSpec.ofChange Rows.volNoneSpec) false w args)
      (Rows.volNoneSpec.post enc Tryz.prog Tryz.f9 false true false false) := by
  refine returnsInHanded_of_change_and (C := Tryz.checked) (X := fun w _ => laidMetH Tryz.prog Rows.volNoneRow.laid w) (fun _ _ _ hh h => h.of_heap hh) own_none started (by kernel_rfl) Tryz.func9
    (ChangeSpec.witness_at (enc := enc) (C := Tryz.checked) (os := os) (X := fun w _ => laidMetH Tryz.prog Rows.volNoneRow.laid w) false (J8 os) #[.agg #[.int .i64 0, .int .i64 0, .int .i64 0, .slice none 0 0, .int .i64 0, .int .i64 0, .int .i64 0, .int .i64 0, .int .i64 0, .int .i64 0]] 8 rfl (by kernel_rfl) (by kernel_rfl) (by kernel_rfl) (by kernel_rfl) (by kernel_rfl) (M_ os _)) ?_
  intro W base args ds gs before hval0 hW _ _ hL _;have hval : ∀ (j : Nat) t v, Tryz.f9.params[j]? = some t → args[j]? = some v → Value.okWide Tryz.prog W .any base t v := hval0;have hW' := hW;obtain ⟨p, q, hA0, hV, rfl, hfz, hnd⟩ := hW;have hA : DataW.TrodAll enc Tryz.prog W 0 (fun _ => true) true Tryz.f9.params.toList args.toList ds p := hA0;rw [Tryz.params9] at hA hval;obtain ⟨v0, d0, p0, rfl, rfl, h0⟩ := Jp hA;obtain ⟨rfl, rfl⟩ := trodVars_none hV;obtain ⟨cs0, rfl, -⟩ := okWide_struct Tryz.underlying63 (hval 0 63 v0 rfl rfl);obtain ⟨_, ⟨x0, rfl⟩, e0⟩ := A.Xk A.YS h0;have htab : A.globOk W := SO hL;refine ((A.PR x0).anyV W htab [.agg cs0] ?_).mono fun e W' ⟨he, hw⟩ => ?_
  · simp only [A.RdL];exact ⟨_, _, rfl, e0, rfl⟩
  · subst he;exact ⟨_, rfl, UB hW' rfl rfl rfl rfl rfl (by decide +kernel) hw⟩

set_option maxRecDepth 100000 in
theorem PQ : (laidOutB Tryz.prog) = true := by kernel_rfl
set_option maxRecDepth 100000 in
theorem PP : (mapsRowed Tryz.prog) = true := by kernel_rfl
set_option maxRecDepth 100000 in
theorem PO : ((Rows.volNoneRow.inPlace == Tryz.prog.inPlace 9)) = true := by kernel_rfl
set_option maxRecDepth 100000 in
theorem PN : ((Rows.volNoneRow.unfollowed == Tryz.prog.unfollowed 9)) = true := by kernel_rfl
set_option maxRecDepth 100000 in
theorem PM : ((Rows.volNoneRow.recurses == Tryz.prog.recurses 9)) = true := by kernel_rfl
set_option maxRecDepth 100000 in
theorem PL : ((Rows.volNoneRow.named == Tryz.prog.varsNamed 9)) = true := by kernel_rfl
set_option maxRecDepth 100000 in
theorem PK : ((Rows.volNoneRow.plainKeys == Tryz.prog.plainKeys)) = true := by kernel_rfl
set_option maxRecDepth 100000 in
theorem PJ : (Tryz.prog.stopsHeard) = true := by kernel_rfl
set_option maxRecDepth 100000 in
theorem PI : (Tryz.prog.mayEnter) = true := by kernel_rfl
set_option maxRecDepth 100000 in
theorem PH : ((Rows.volNoneRow.lifted == Tryz.prog.liftsFinal)) = true := by kernel_rfl
set_option maxRecDepth 100000 in
theorem N_ : ((Tryz.prog.make == some Rows.volNoneRow.make)) = true := by kernel_rfl
set_option maxRecDepth 100000 in
theorem K9 : joinedFacts Tryz.prog 9 Tryz.f9 Rows.volNoneSpec Rows.volNoneRow = true := by
  unfold joinedFacts;rw [PQ, PP, PO, PN, PM, PL, PK, PJ, PI, PH, N_];kernel_rfl
theorem MZ : Rows.VolNoneSaid :=
  OpenClaim.holds_of_wide 9 Tryz.f9 rfl rfl rfl rfl rfl rfl rfl tA rfl rfl rfl rfl rfl (by kernel_rfl) Tryz.func9 K9
    (of_decide_eq_true (by kernel_rfl)) (by unfold Func.isWrapper; first | (rw [if_pos (by decide +kernel)]; kernel_rfl) | (rw [if_neg (by decide +kernel)]; exact tA))
    (fun os started H enc _ => K8 os started H enc)
theorem R_ : false = Rows.volNoneRow.goesBy Tryz.prog := by kernel_rfl
theorem volnone_holds : Rows.VolNoneCardSaid :=
  Claim7.holds_tied_plain_at .later [] [.data, .pinned] true (true, "6db604321c5ea5e0522bc7594e199205d3f76e1bb5eb1dacd5dbc2e27712a50d") true
    MZ (fun _ h => by cases h) (by kernel_rfl) (fun _ h => by cases h) volNone_row_tie rfl tA (by kernel_rfl) rfl
    (fun f fn hf hfn => by
      obtain rfl : f = 9 := Option.some.inj ((show Tryz.prog.funcNamed "casemate/casematelaw26.VolNone" = some 9 by kernel_rfl).symm.trans hf) |>.symm
      obtain rfl : fn = Tryz.f9 := (Option.some.inj (Tryz.func9.symm.trans hfn)).symm;exact ⟨by kernel_rfl, fun j t ht => by
        rw [Tryz.params9] at ht;have hm : t ∈ [63] := by
          have := Array.mem_of_getElem? ht;first | (simp at this ⊢; omega) | simpa using this
        have hall : ([63].all fun u => !Tryz.prog.wantsStandIn u) = true := by kernel_rfl
        exact (show Tryz.prog.wantsStandIn t = false by simpa using Av.1 hall t hm)⟩)
    R_
end Go.Proofs.YtpjkcgacjjbikaaGreatDoor
