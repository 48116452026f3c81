/-
Several texts in one.
-/
import Derived.Test.YteecmgonbdbhdaaDoorComP5

/-
The law PairOthers.
-/
section
namespace Go.Proofs.YteecmgonbdbhdaaDoor.A
open Go.RowKit

theorem is_v (r : Rc) (a : An) (seq at_ of_ left : Int) (b : Bool) (h : isOne r a seq at_ of_ left = b) : Fn Tryd.prog 16 [.ag (rcC r), .ag (anC a), .v (.int .i64 seq), .v (.int .i64 at_), .v (.int .i64 of_), .v (.int .i64 left)] fun x => x = .v (.bool b) := by
  have := is_fn r a seq at_ of_ left
  rw [h] at this
  exact this
def imgZ : Img := ⟨0, 0, []⟩
theorem others_fn (a : An) (seq at_ of_ how n : Int) : Fn Tryd.prog 6 [.ag (anC a), .v (.int .i64 seq), .v (.int .i64 at_), .v (.int .i64 of_), .v (.int .i64 how), .v (.int .i64 n)] fun r => r = .v (.bool true) := by
  have b1 := modU_in (x := seq) (n := 1000) (by decide) (by decide)
  have b2 := modU_in (x := at_) (n := 10) (by decide) (by decide)
  have b3 := modU_in (x := n) (n := 10) (by decide) (by decide)
  have b4 := modU_in (x := of_) (n := 10) (by decide) (by decide)
  obtain ⟨Z, hZ⟩ : ∃ Z, Z = IntKind.i64.wrap (IntKind.i64.wrap (modU at_ 10 + 1) + modU of_ 10) := ⟨_, rfl⟩
  have eZ : Z = modU at_ 10 + 1 + modU of_ 10 := by rw [hZ, wi (n := modU at_ 10 + 1) (by omega), wi (by omega)]
  obtain ⟨N, hN⟩ : ∃ N, N = IntKind.i64.wrap (1 + modU n 10) := ⟨_, rfl⟩
  have eN : N = 1 + modU n 10 := by rw [hN, wi (by omega)]
  have w1 : IntKind.i64.wrap (modU seq 1000 + N) = modU seq 1000 + N := wi (by omega)
  have w2 : IntKind.i64.wrap (modU at_ 10 + N) = modU at_ 10 + N := wi (by omega)
  have w3 : IntKind.i64.wrap (Z + N) = Z + N := wi (by omega)
  have w4 : IntKind.i64.wrap (Z - 1) = Z - 1 := wi (by omega)
  have y1 := is_v ⟨1, modU seq 1000, a.epoch, modU at_ 10, Z, imgZ⟩ a (modU seq 1000) (modU at_ 10) Z 0 true (decide_eq_true ⟨show (1 : Int) ≠ 0 by decide, rfl, rfl, fun h => by omega, fun _ => rfl, .inl rfl⟩)
  have y2 := is_v ⟨1, modU seq 1000, a.epoch, modU at_ 10, Z, imgZ⟩ a (modU seq 1000) (modU at_ 10) 0 Z true (decide_eq_true ⟨show (1 : Int) ≠ 0 by decide, rfl, rfl, fun _ => Int.le_refl _, fun h => absurd rfl h, .inl rfl⟩)
  have n1 := is_v ⟨1, modU seq 1000, a.epoch, modU at_ 10, Z, imgZ⟩ a (modU seq 1000 + N) (modU at_ 10) Z 0 false (decide_eq_false (by simp only; omega))
  have n2 := is_v ⟨1, modU seq 1000, a.epoch, modU at_ 10, Z, imgZ⟩ a (modU seq 1000) (modU at_ 10 + N) Z 0 false (decide_eq_false (by simp only; omega))
  have n3 := is_v ⟨1, modU seq 1000, a.epoch, modU at_ 10, Z, imgZ⟩ a (modU seq 1000) (modU at_ 10) (Z + N) 0 false (decide_eq_false (by simp only; omega))
  have n4 := is_v ⟨1, modU seq 1000, a.epoch, modU at_ 10, Z, imgZ⟩ a (modU seq 1000) (modU at_ 10) 0 (Z - 1) false (decide_eq_false fun h => by have := h.2.2.2.1 rfl; simp only at this; omega)
  have n5 := is_v ⟨0, modU seq 1000, a.epoch, modU at_ 10, Z, imgZ⟩ a (modU seq 1000) (modU at_ 10) Z 0 false (decide_eq_false fun h => h.1 rfl)
  rw [← w1] at n1
  rw [← w2] at n2
  rw [← w3] at n3
  rw [← w4] at n4
  subst hN hZ
  refine Fn.of tys_ok Tryd.func6 rfl rfl (Nat.le_of_ble_eq_true rfl) ?_
  conv => whnf
  refine Fn.closed (heavyA_fn a) rfl ?_
  rintro _ rfl
  conv => whnf
  refine boolI (fun t1 => ?_) (fun t1 => ?_) <;> (repeat rw [Int.toNat_natCast] at t1) <;> conv => whnf
  · exact ⟨_, fun _ _ h => h, rfl⟩
  repeat' (refine And.intro (by decide) ?_; conv => whnf)
  refine ACalls.sub _ ?_ (Fn.closed (y1) rfl ?_)
  · repeat' (first | exact trivial | exact fun _ _ h => h | exact nil_sl _ _ | refine And.intro ?_ ?_ | refine ag_sub ?_)
  rintro _ rfl
  conv => whnf
  refine ACalls.sub _ ?_ (Fn.closed (y2) rfl ?_)
  · repeat' (first | exact trivial | exact fun _ _ h => h | exact nil_sl _ _ | refine And.intro ?_ ?_ | refine ag_sub ?_)
  rintro _ rfl
  conv => whnf
  refine And.intro (by decide) ?_
  conv => whnf
  repeat' (first | (refine boolI (fun _ => ?_) (fun _ => ?_) <;> conv => whnf) | (refine aSeq.go ?_; conv => whnf))
  · refine ACalls.sub _ ?_ (Fn.closed (n1) rfl ?_)
    · repeat' (first | exact trivial | exact fun _ _ h => h | exact nil_sl _ _ | refine And.intro ?_ ?_ | refine ag_sub ?_)
    rintro _ rfl
    conv => whnf
    refine Fn.closed (wakes17_fn) rfl ?_
    rintro _ rfl
    conv => whnf
    exact ⟨_, fun _ _ h => h, rfl⟩
  · refine ACalls.sub _ ?_ (Fn.closed (n2) rfl ?_)
    · repeat' (first | exact trivial | exact fun _ _ h => h | exact nil_sl _ _ | refine And.intro ?_ ?_ | refine ag_sub ?_)
    rintro _ rfl
    conv => whnf
    refine Fn.closed (wakes17_fn) rfl ?_
    rintro _ rfl
    conv => whnf
    exact ⟨_, fun _ _ h => h, rfl⟩
  · refine ACalls.sub _ ?_ (Fn.closed (n3) rfl ?_)
    · repeat' (first | exact trivial | exact fun _ _ h => h | exact nil_sl _ _ | refine And.intro ?_ ?_ | refine ag_sub ?_)
    rintro _ rfl
    conv => whnf
    refine Fn.closed (wakes17_fn) rfl ?_
    rintro _ rfl
    conv => whnf
    exact ⟨_, fun _ _ h => h, rfl⟩
  · refine ACalls.sub _ ?_ (Fn.closed (n4) rfl ?_)
    · repeat' (first | exact trivial | exact fun _ _ h => h | exact nil_sl _ _ | refine And.intro ?_ ?_ | refine ag_sub ?_)
    rintro _ rfl
    conv => whnf
    refine Fn.closed (wakes17_fn) rfl ?_
    rintro _ rfl
    conv => whnf
    exact ⟨_, fun _ _ h => h, rfl⟩
  · refine ACalls.sub _ ?_ (Fn.closed (n5) rfl ?_)
    · repeat' (first | exact trivial | exact fun _ _ h => h | exact nil_sl _ _ | refine And.intro ?_ ?_ | refine ag_sub ?_)
    rintro _ rfl
    conv => whnf
    refine Fn.closed (wakes17_fn) rfl ?_
    rintro _ rfl
    conv => whnf
    exact ⟨_, fun _ _ h => h, rfl⟩
end Go.Proofs.YteecmgonbdbhdaaDoor.A
end

/-
The law PairElder.
-/
section
namespace Go.Proofs.YteecmgonbdbhdaaDoor.A
open Go.RowKit

theorem heavyA_no {a : An} (h : heavyA a = false) : a.homes.length ≤ 10 ∧ a.label.size ≤ 200 := by
  simp only [heavyA, Bool.or_eq_false_iff, decide_eq_false_iff_not] at h
  omega
set_option maxRecDepth 100000 in
theorem elder_fn (g : Geo) (a : An) (seq epoch : Int) : Fn Tryd.prog 5 [.ag (geoC g), .ag (anC a), .v (.int .i64 seq), .v (.int .i64 epoch)] fun r => r = .v (.bool true) := by
  have b1 := modU_in (x := seq) (n := 1000000) (by decide) (by decide)
  have b2 := modU_in (x := epoch) (n := 1000000) (by decide) (by decide)
  refine Fn.of tys_ok Tryd.func5 rfl rfl (Nat.le_of_ble_eq_true rfl) ?_
  conv => whnf
  refine Fn.closed (heavyA_fn a) rfl ?_
  rintro _ rfl
  conv => whnf
  refine boolI (fun t1 => ?_) (fun t1 => ?_) <;> (repeat rw [Int.toNat_natCast] at t1) <;> conv => whnf
  · exact ⟨_, fun _ _ h => h, rfl⟩
  refine Fn.closed (rgeom_br g) rfl ?_
  rintro _ rfl
  conv => whnf
  refine boolI (fun t2 => ?_) (fun t2 => ?_) <;> (repeat rw [Int.toNat_natCast] at t2) <;> conv => whnf
  · exact ⟨_, fun _ _ h => h, rfl⟩
  obtain ⟨hh, hl⟩ := heavyA_no t1
  refine Fn.closed (ranchor_fn g a t2 (by omega)) rfl ?_
  rintro _ rfl
  conv => whnf
  refine boolI (fun t3 => ?_) (fun t3 => ?_) <;> (repeat rw [Int.toNat_natCast] at t3) <;> conv => whnf
  · exact ⟨_, fun _ _ h => h, rfl⟩
  obtain ⟨h1, h2, h3, h4, h5⟩ := okG_iff.1 t2
  have k1 : okR g ⟨2, modU seq 1000000, modU epoch 1000000, 1, 2, imgZ⟩ = true := by
    simp [okR, behOk, numsB, inB, noneB, imgZ, t2]
    omega
  have hs : inB 0 0 (g.sl - 1) = true := inB_iff.2 (by omega)
  have hL0 : okL g 0 0 = true := by rw [okL, hs]; rfl
  have hL1 : okL g 1 0 = true := by rw [okL, hs]; rfl
  have c0 := cell17_fn g ⟨2, modU seq 1000000, modU epoch 1000000, 1, 2, imgZ⟩ 0 0 k1 hL0
  have c1 := cell17_fn g ⟨2, modU seq 1000000, modU epoch 1000000, 1, 2, imgZ⟩ 1 0 k1 hL1
  repeat' (refine And.intro (by decide) ?_; conv => whnf)
  by_cases hW : modU epoch 1000000 = a.epoch ∨ modU seq 1000000 ≤ a.last ∧ modU epoch 1000000 ≤ a.epoch
  · have hB : isOne ⟨2, modU seq 1000000, modU epoch 1000000, 1, 2, imgZ⟩ a (modU seq 1000000) 1 2 g.sl = true := decide_eq_true ⟨show (2 : Int) ≠ 0 by decide, rfl, rfl, fun h => absurd h (by decide), fun _ => rfl, hW⟩
    have y := is_v _ _ _ _ _ _ _ hB
    have l := look_is (g := g) (a := a) (x := ⟨0, cellB g ⟨2, modU seq 1000000, modU epoch 1000000, 1, 2, imgZ⟩ 0 0⟩) (y := ⟨0, cellB g ⟨2, modU seq 1000000, modU epoch 1000000, 1, 2, imgZ⟩ 1 0⟩) (slot := 0) (seq := modU seq 1000000) (at_ := 1) (of_ := 2) (left := g.sl) (q := (⟨2, modU seq 1000000, modU epoch 1000000, 1, 2, imgZ⟩, [], 1)) (by omega) (by omega) (cellB_short k1 0 0) (cellB_short k1 1 0) t2 t3 hs (by
      unfold lookR
      rw [says_cell t2 k1 hL0, says_cell t2 k1 hL1]
      simp only [oneO, hB]
      rfl)
    refine ACalls.sub _ ?_ (Fn.closed (y) rfl ?_)
    · repeat' (first | exact trivial | exact fun _ _ h => h | exact nil_sl _ _ | refine And.intro ?_ ?_ | refine ag_sub ?_)
    rintro _ rfl
    conv => whnf
    repeat' (first | (refine boolI (fun _ => ?_) (fun _ => ?_) <;> conv => whnf) | (refine aSeq.go ?_; conv => whnf))
    all_goals cases hD : decide (IntKind.i64.wrap ((IntKind.u64.wrap seq).tmod 1000000) ≤ a.last)
    all_goals first | have hD' := of_decide_eq_false hD | have hD' := of_decide_eq_true hD
    all_goals first
      | (exfalso; clear hD; simp only [modU] at *; omega)
      | skip
    all_goals
      apply aDraw.tree tys_ok mixed (.one 0 (.one 1 (.one 2 (.one 3 (.one 5 (.one 6 (.one 8 (.one 9 (.one 10 (.two 4 (.two 7 (.two 11 (.one 12 (.one 13 (.one 14 (.one 15 (.one 16 (.one 17 (.one 18 (.one 19 (.one 20 (.one 21 .fin)))))))))) 17 (.one 11 (.one 12 (.one 13 (.one 14 (.one 15 (.one 16 (.one 18 (.one 19 (.one 20 (.one 21 .fin))))))))))) 17 (.one 7 (.one 11 (.one 12 (.one 13 (.one 14 (.one 15 (.one 16 (.one 18 (.one 19 (.one 20 (.one 21 .fin)))))))))))) 17 (.one 4 (.one 7 (.one 11 (.one 12 (.one 13 (.one 14 (.one 15 (.one 16 (.one 18 (.one 19 (.one 20 (.one 21 .fin)))))))))))))))))))))) [12, 13, 14, 15, 62, 63, 64, 65, 66, 67, 68, 69, 70, 71, 72, 73, 74, 75, 76, 77, 78] (by kernel_rfl)
      · conv => whnf
        refine And.intro ?_ ?_
        · conv => whnf
          refine ACalls.sub _ ?_ (Fn.closed (c0) rfl ?_)
          · repeat' (first | exact trivial | exact fun _ _ h => h | exact nil_sl _ _ | refine And.intro ?_ ?_ | refine ag_sub ?_)
          rintro _ rfl
          conv => whnf
          refine And.intro ?_ ?_
          · conv => whnf
            refine ACalls.sub _ ?_ (Fn.closed (c1) rfl ?_)
            · repeat' (first | exact trivial | exact fun _ _ h => h | exact nil_sl _ _ | refine And.intro ?_ ?_ | refine ag_sub ?_)
            rintro _ rfl
            conv => whnf
            refine And.intro ?_ ?_
            · conv => whnf
              refine Fn.closed (l) rfl ?_
              rintro _ rfl
              conv => whnf
              exact ⟨rfl, rfl⟩
            · conv => whnf
              refine Fn.closed (l) rfl ?_
              rintro _ rfl
              conv => whnf
              exact ⟨rfl, rfl⟩
          · conv => whnf
            refine ACalls.sub _ ?_ (Fn.closed (c1) rfl ?_)
            · repeat' (first | exact trivial | exact fun _ _ h => h | exact nil_sl _ _ | refine And.intro ?_ ?_ | refine ag_sub ?_)
            rintro _ rfl
            conv => whnf
            refine Fn.closed (l) rfl ?_
            rintro _ rfl
            conv => whnf
            exact ⟨rfl, rfl⟩
        · conv => whnf
          refine ACalls.sub _ ?_ (Fn.closed (c0) rfl ?_)
          · repeat' (first | exact trivial | exact fun _ _ h => h | exact nil_sl _ _ | refine And.intro ?_ ?_ | refine ag_sub ?_)
          rintro _ rfl
          conv => whnf
          refine ACalls.sub _ ?_ (Fn.closed (c1) rfl ?_)
          · repeat' (first | exact trivial | exact fun _ _ h => h | exact nil_sl _ _ | refine And.intro ?_ ?_ | refine ag_sub ?_)
          rintro _ rfl
          conv => whnf
          refine Fn.closed (l) rfl ?_
          rintro _ rfl
          conv => whnf
          exact ⟨rfl, rfl⟩
      conv => whnf
      refine Fn.closed (wakes17_fn) rfl ?_
      rintro _ rfl
      conv => whnf
      exact ⟨_, fun _ _ h => h, rfl⟩
  · have hB : isOne ⟨2, modU seq 1000000, modU epoch 1000000, 1, 2, imgZ⟩ a (modU seq 1000000) 1 2 g.sl = false := decide_eq_false fun h => hW h.2.2.2.2.2
    have y := is_v _ _ _ _ _ _ _ hB
    have l := look_is (g := g) (a := a) (x := ⟨0, cellB g ⟨2, modU seq 1000000, modU epoch 1000000, 1, 2, imgZ⟩ 0 0⟩) (y := ⟨0, cellB g ⟨2, modU seq 1000000, modU epoch 1000000, 1, 2, imgZ⟩ 1 0⟩) (slot := 0) (seq := modU seq 1000000) (at_ := 1) (of_ := 2) (left := g.sl) (q := (zeroC, [], 2)) (by omega) (by omega) (cellB_short k1 0 0) (cellB_short k1 1 0) t2 t3 hs (by
      unfold lookR
      rw [says_cell t2 k1 hL0, says_cell t2 k1 hL1]
      simp only [oneO, hB]
      rfl)
    refine ACalls.sub _ ?_ (Fn.closed (y) rfl ?_)
    · repeat' (first | exact trivial | exact fun _ _ h => h | exact nil_sl _ _ | refine And.intro ?_ ?_ | refine ag_sub ?_)
    rintro _ rfl
    conv => whnf
    repeat' (first | (refine boolI (fun _ => ?_) (fun _ => ?_) <;> conv => whnf) | (refine aSeq.go ?_; conv => whnf))
    all_goals cases hD : decide (IntKind.i64.wrap ((IntKind.u64.wrap seq).tmod 1000000) ≤ a.last)
    all_goals first | have hD' := of_decide_eq_false hD | have hD' := of_decide_eq_true hD
    all_goals first
      | (exfalso; clear hD; simp only [modU] at *; omega)
      | skip
    all_goals
      apply aDraw.tree tys_ok mixed (.one 0 (.one 1 (.one 2 (.one 3 (.one 5 (.one 6 (.one 8 (.one 9 (.one 10 (.two 4 (.two 7 (.two 11 (.one 12 (.one 13 (.one 14 (.one 15 (.one 16 (.one 17 (.one 18 (.one 19 (.one 20 (.one 21 .fin)))))))))) 17 (.one 11 (.one 12 (.one 13 (.one 14 (.one 15 (.one 16 (.one 18 (.one 19 (.one 20 (.one 21 .fin))))))))))) 17 (.one 7 (.one 11 (.one 12 (.one 13 (.one 14 (.one 15 (.one 16 (.one 18 (.one 19 (.one 20 (.one 21 .fin)))))))))))) 17 (.one 4 (.one 7 (.one 11 (.one 12 (.one 13 (.one 14 (.one 15 (.one 16 (.one 18 (.one 19 (.one 20 (.one 21 .fin)))))))))))))))))))))) [12, 13, 14, 15, 62, 63, 64, 65, 66, 67, 68, 69, 70, 71, 72, 73, 74, 75, 76, 77, 78] (by kernel_rfl)
      · conv => whnf
        refine And.intro ?_ ?_
        · conv => whnf
          refine ACalls.sub _ ?_ (Fn.closed (c0) rfl ?_)
          · repeat' (first | exact trivial | exact fun _ _ h => h | exact nil_sl _ _ | refine And.intro ?_ ?_ | refine ag_sub ?_)
          rintro _ rfl
          conv => whnf
          refine And.intro ?_ ?_
          · conv => whnf
            refine ACalls.sub _ ?_ (Fn.closed (c1) rfl ?_)
            · repeat' (first | exact trivial | exact fun _ _ h => h | exact nil_sl _ _ | refine And.intro ?_ ?_ | refine ag_sub ?_)
            rintro _ rfl
            conv => whnf
            refine And.intro ?_ ?_
            · conv => whnf
              refine Fn.closed (l) rfl ?_
              rintro _ rfl
              conv => whnf
              exact ⟨rfl, rfl⟩
            · conv => whnf
              refine Fn.closed (l) rfl ?_
              rintro _ rfl
              conv => whnf
              exact ⟨rfl, rfl⟩
          · conv => whnf
            refine ACalls.sub _ ?_ (Fn.closed (c1) rfl ?_)
            · repeat' (first | exact trivial | exact fun _ _ h => h | exact nil_sl _ _ | refine And.intro ?_ ?_ | refine ag_sub ?_)
            rintro _ rfl
            conv => whnf
            refine Fn.closed (l) rfl ?_
            rintro _ rfl
            conv => whnf
            exact ⟨rfl, rfl⟩
        · conv => whnf
          refine ACalls.sub _ ?_ (Fn.closed (c0) rfl ?_)
          · repeat' (first | exact trivial | exact fun _ _ h => h | exact nil_sl _ _ | refine And.intro ?_ ?_ | refine ag_sub ?_)
          rintro _ rfl
          conv => whnf
          refine ACalls.sub _ ?_ (Fn.closed (c1) rfl ?_)
          · repeat' (first | exact trivial | exact fun _ _ h => h | exact nil_sl _ _ | refine And.intro ?_ ?_ | refine ag_sub ?_)
          rintro _ rfl
          conv => whnf
          refine Fn.closed (l) rfl ?_
          rintro _ rfl
          conv => whnf
          exact ⟨rfl, rfl⟩
      conv => whnf
      refine Fn.closed (wakes17_fn) rfl ?_
      rintro _ rfl
      conv => whnf
      exact ⟨_, fun _ _ h => h, rfl⟩
end Go.Proofs.YteecmgonbdbhdaaDoor.A
end
