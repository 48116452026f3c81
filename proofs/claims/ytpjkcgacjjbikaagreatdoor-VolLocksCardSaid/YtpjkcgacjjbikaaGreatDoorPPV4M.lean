/-
The law VolLocks of package casematelaw26 answers true at every input and leaves its input as it was (the card ties utf8's two tables to the program's text).
-/
import Derived.Test.YtpjkcgacjjbikaaGreatDoorPPV4P5
import Derived.Test.YtpjkcgacjjbikaaGreatDoorCards
import Derived.Test.YtpjkcgacjjbikaaGreatDoorTie
namespace Go.Proofs.YtpjkcgacjjbikaaGreatDoor
open Go.ChangeShapes Go.WideShapes Go.ChangeAt Go.RowKit

theorem Je {H : Type} {enc : TypeId × Value → H} {P : Program} {w : World} {base : Nat} {spare : Nat → Bool} {held : Bool} {t0 t1 t2 t3 : TypeId} {args : Array Value} {ds : List (DataW H)} {ps : List MemPlace} (h : DataW.TrodAll enc P w base spare held [t0, t1, t2, t3] args.toList ds ps) :
    ∃ v0 v1 v2 v3 d0 d1 d2 d3 p0 p1 p2 p3, args = #[v0, v1, v2, v3] ∧ ds = [d0, d1, d2, d3] ∧
      DataW.Trod enc P w base spare held t0 v0 d0 p0 ∧ DataW.Trod enc P w base spare held t1 v1 d1 p1 ∧ DataW.Trod enc P w base spare held t2 v2 d2 p2 ∧ DataW.Trod enc P w base spare held t3 v3 d3 p3 := by
  obtain ⟨v0, vs0, d0, ds0, p0, q0, ha, rfl, rfl, h0, r0⟩ := trodAll_cons h;obtain ⟨v1, vs1, d1, ds1, p1, q1, rfl, rfl, rfl, h1, r1⟩ := trodAll_cons r0;obtain ⟨v2, vs2, d2, ds2, p2, q2, rfl, rfl, rfl, h2, r2⟩ := trodAll_cons r1;obtain ⟨v3, vs3, d3, ds3, p3, q3, rfl, rfl, rfl, h3, r3⟩ := trodAll_cons r2;obtain ⟨rfl, rfl, rfl⟩ := trodAll_nil r3;exact ⟨v0, v1, v2, v3, d0, d1, d2, d3, p0, p1, p2, p3, by cases args; simp_all, rfl, h0, h1, h2, h3⟩

theorem MC (os : Os) (args : Array Value) : laidMetH Tryz.prog Rows.volLocksRow.laid ((JY os).forCall (fun _ _ => 0) ⟨#[], args, []⟩).memory := Vr os args

set_option maxRecDepth 100000 in
theorem KJ (os : Os) (started : os.Started) (H : Type) (enc : TypeId × Value → H) :
    ReturnsInHanded {} Tryz.checked os 4 .any (fun w args => (Rows.volLocksSpec.pre enc Tryz.prog Tryz.f4 [] false w args ∧ laidMetH Tryz.prog Rows.volLocksRow.laid w) ∧ sizedMet enc Tryz.prog Tryz.f4 (OpenSpec.ofChange Rows.volLocksSpec) false w args)
      (Rows.volLocksSpec.post enc Tryz.prog Tryz.f4 false true false false) := by
  refine returnsInHanded_of_change_and (C := Tryz.checked) (X := fun w _ => laidMetH Tryz.prog Rows.volLocksRow.laid w) (fun _ _ _ hh h => h.of_heap hh) own_none started (by kernel_rfl) Tryz.func4
    (ChangeSpec.witness_at (enc := enc) (C := Tryz.checked) (os := os) (X := fun w _ => laidMetH Tryz.prog Rows.volLocksRow.laid w) false (JY os) #[.int .i64 0, .slice none 0 0, .bool false, .bool false] 8 rfl (by kernel_rfl) (by kernel_rfl) (by kernel_rfl) (by kernel_rfl) (by kernel_rfl) (MC os _)) ?_
  intro W base args ds gs before hval0 hW _ _ hL _;have hval : ∀ (j : Nat) t v, Tryz.f4.params[j]? = some t → args[j]? = some v → Value.okWide Tryz.prog W .any base t v := hval0;have hW' := hW;obtain ⟨p, q, hA0, hV, rfl, hfz, hnd⟩ := hW;have hA : DataW.TrodAll enc Tryz.prog W 0 (fun _ => true) true Tryz.f4.params.toList args.toList ds p := hA0;rw [Tryz.params4] at hA hval;obtain ⟨v0, v1, v2, v3, d0, d1, d2, d3, p0, p1, p2, p3, rfl, rfl, h0, h1, h2, h3⟩ := Je hA;obtain ⟨rfl, rfl⟩ := trodVars_none hV;obtain ⟨x0, rfl, rfl, rfl, wf0⟩ := open_int Tryz.underlying3 (hval 0 3 v0 rfl rfl) h0;have e0 : A.Rd (.v (.int .i64 x0)) (A.Ki W) (.int .i64 x0) := A.NT _;obtain ⟨s1, sl1, sc1, rfl⟩ := okWide_slice Tryz.underlying22 (hval 1 22 v1 rfl rfl);obtain ⟨_, ⟨x1, rfl⟩, e1⟩ := A.XT A.oBy rfl h1;replace e1 := A.WY e1;obtain ⟨x2, rfl, rfl, rfl⟩ := open_bool Tryz.underlying4 (hval 2 4 v2 rfl rfl) h2;have e2 : A.Rd (.v (.bool x2)) (A.Ki W) (.bool x2) := A.NT _;obtain ⟨x3, rfl, rfl, rfl⟩ := open_bool Tryz.underlying4 (hval 3 4 v3 rfl rfl) h3;have e3 : A.Rd (.v (.bool x3)) (A.Ki W) (.bool x3) := A.NT _;have htab : A.globOk W := T3 hL;refine ((A.OT x0 x1 x2 x3).anyV W htab [.int .i64 x0, .slice s1 sl1 sc1, .bool x2, .bool x3] ?_).mono fun e W' ⟨he, hw⟩ => ?_
  · simp only [A.RdL];exact ⟨_, _, rfl, e0, ⟨_, _, rfl, e1, ⟨_, _, rfl, e2, ⟨_, _, rfl, e3, rfl⟩⟩⟩⟩
  · subst he;exact ⟨_, rfl, Vn hW' rfl rfl rfl rfl rfl (by decide +kernel) hw⟩

set_option maxRecDepth 100000 in
theorem OS : (laidOutB Tryz.prog) = true := by kernel_rfl
set_option maxRecDepth 100000 in
theorem OR : (mapsRowed Tryz.prog) = true := by kernel_rfl
set_option maxRecDepth 100000 in
theorem OQ : ((Rows.volLocksRow.inPlace == Tryz.prog.inPlace 4)) = true := by kernel_rfl
set_option maxRecDepth 100000 in
theorem OP : ((Rows.volLocksRow.unfollowed == Tryz.prog.unfollowed 4)) = true := by kernel_rfl
set_option maxRecDepth 100000 in
theorem OO : ((Rows.volLocksRow.recurses == Tryz.prog.recurses 4)) = true := by kernel_rfl
set_option maxRecDepth 100000 in
theorem ON : ((Rows.volLocksRow.named == Tryz.prog.varsNamed 4)) = true := by kernel_rfl
set_option maxRecDepth 100000 in
theorem OL : ((Rows.volLocksRow.plainKeys == Tryz.prog.plainKeys)) = true := by kernel_rfl
set_option maxRecDepth 100000 in
theorem OK : (Tryz.prog.stopsHeard) = true := by kernel_rfl
set_option maxRecDepth 100000 in
theorem OJ : (Tryz.prog.mayEnter) = true := by kernel_rfl
set_option maxRecDepth 100000 in
theorem OI : ((Rows.volLocksRow.lifted == Tryz.prog.liftsFinal)) = true := by kernel_rfl
set_option maxRecDepth 100000 in
theorem NE : ((Tryz.prog.make == some Rows.volLocksRow.make)) = true := by kernel_rfl
set_option maxRecDepth 100000 in
theorem KL : joinedFacts Tryz.prog 4 Tryz.f4 Rows.volLocksSpec Rows.volLocksRow = true := by
  unfold joinedFacts;rw [OS, OR, OQ, OP, OO, ON, OL, OK, OJ, OI, NE];kernel_rfl
theorem MB : Rows.VolLocksSaid :=
  OpenClaim.holds_of_wide 4 Tryz.f4 rfl rfl rfl rfl rfl rfl rfl tA rfl rfl rfl rfl rfl (by kernel_rfl) Tryz.func4 KL
    (of_decide_eq_true (by kernel_rfl)) (by unfold Func.isWrapper; first | (rw [if_pos (by decide +kernel)]; kernel_rfl) | (rw [if_neg (by decide +kernel)]; exact tA))
    (fun os started H enc _ => KJ os started H enc)
theorem QB : false = Rows.volLocksRow.goesBy Tryz.prog := by kernel_rfl
theorem vollocks_holds : Rows.VolLocksCardSaid :=
  Claim7.holds_tied_plain_at .later [] [.data, .pinned] true (true, "6db604321c5ea5e0522bc7594e199205d3f76e1bb5eb1dacd5dbc2e27712a50d") true
    MB (fun _ h => by cases h) (by kernel_rfl) (fun _ h => by cases h) volLocks_row_tie rfl tA (by kernel_rfl) rfl
    (fun f fn hf hfn => by
      obtain rfl : f = 4 := Option.some.inj ((show Tryz.prog.funcNamed "casemate/casematelaw26.VolLocks" = some 4 by kernel_rfl).symm.trans hf) |>.symm
      obtain rfl : fn = Tryz.f4 := (Option.some.inj (Tryz.func4.symm.trans hfn)).symm;exact ⟨by kernel_rfl, fun j t ht => by
        rw [Tryz.params4] at ht;have hm : t ∈ [3, 22, 4, 4] := by
          have := Array.mem_of_getElem? ht;first | (simp at this ⊢; omega) | simpa using this
        have hall : ([3, 22, 4, 4].all fun u => !Tryz.prog.wantsStandIn u) = true := by kernel_rfl
        exact (show Tryz.prog.wantsStandIn t = false by simpa using Av.1 hall t hm)⟩)
    QB
end Go.Proofs.YtpjkcgacjjbikaaGreatDoor
