/-
Several texts in one.
-/
import Derived.Test.YteecmgonbdbhdaaDoorComP5
import Derived.Test.YteecmgonbdbhdaaDoorComP1

/-
The law PairOthers.
-/
section
namespace Go.Proofs.YteecmgonbdbhdaaDoor.A
open Go.RowKit

theorem is_v (r : Rc) (a : An) (seq at_ of_ left : Int) (b : Bool) (h : isOne r a seq at_ of_ left = b) : Fn Tryd.prog 16 [.ag (rcC r), .ag (anC a), .v (.int .i64 seq), .v (.int .i64 at_), .v (.int .i64 of_), .v (.int .i64 left)] fun x => x = .v (.bool b) := by
  have := is_fn r a seq at_ of_ left
  rw [h] at this
  exact this
def imgZ : Img := ⟨0, 0, []⟩
theorem others_fn (a : An) (seq at_ of_ how n : Int) : Fn Tryd.prog 6 [.ag (anC a), .v (.int .i64 seq), .v (.int .i64 at_), .v (.int .i64 of_), .v (.int .i64 how), .v (.int .i64 n)] fun r => r = .v (.bool true) := by
  have b1 := modU_in (x := seq) (n := 1000) (by decide) (by decide)
  have b2 := modU_in (x := at_) (n := 10) (by decide) (by decide)
  have b3 := modU_in (x := n) (n := 10) (by decide) (by decide)
  have b4 := modU_in (x := of_) (n := 10) (by decide) (by decide)
  obtain ⟨Z, hZ⟩ : ∃ Z, Z = IntKind.i64.wrap (IntKind.i64.wrap (modU at_ 10 + 1) + modU of_ 10) := ⟨_, rfl⟩
  have eZ : Z = modU at_ 10 + 1 + modU of_ 10 := by rw [hZ, wi (n := modU at_ 10 + 1) (by omega), wi (by omega)]
  obtain ⟨N, hN⟩ : ∃ N, N = IntKind.i64.wrap (1 + modU n 10) := ⟨_, rfl⟩
  have eN : N = 1 + modU n 10 := by rw [hN, wi (by omega)]
  have w1 : IntKind.i64.wrap (modU seq 1000 + N) = modU seq 1000 + N := wi (by omega)
  have w2 : IntKind.i64.wrap (modU at_ 10 + N) = modU at_ 10 + N := wi (by omega)
  have w3 : IntKind.i64.wrap (Z + N) = Z + N := wi (by omega)
  have w4 : IntKind.i64.wrap (Z - 1) = Z - 1 := wi (by omega)
  have y1 := is_v ⟨1, modU seq 1000, a.epoch, modU at_ 10, Z, imgZ⟩ a (modU seq 1000) (modU at_ 10) Z 0 true (decide_eq_true ⟨show (1 : Int) ≠ 0 by decide, rfl, rfl, fun h => by omega, fun _ => rfl, .inl rfl⟩)
  have y2 := is_v ⟨1, modU seq 1000, a.epoch, modU at_ 10, Z, imgZ⟩ a (modU seq 1000) (modU at_ 10) 0 Z true (decide_eq_true ⟨show (1 : Int) ≠ 0 by decide, rfl, rfl, fun _ => Int.le_refl _, fun h => absurd rfl h, .inl rfl⟩)
  have n1 := is_v ⟨1, modU seq 1000, a.epoch, modU at_ 10, Z, imgZ⟩ a (modU seq 1000 + N) (modU at_ 10) Z 0 false (decide_eq_false (by simp only; omega))
  have n2 := is_v ⟨1, modU seq 1000, a.epoch, modU at_ 10, Z, imgZ⟩ a (modU seq 1000) (modU at_ 10 + N) Z 0 false (decide_eq_false (by simp only; omega))
  have n3 := is_v ⟨1, modU seq 1000, a.epoch, modU at_ 10, Z, imgZ⟩ a (modU seq 1000) (modU at_ 10) (Z + N) 0 false (decide_eq_false (by simp only; omega))
  have n4 := is_v ⟨1, modU seq 1000, a.epoch, modU at_ 10, Z, imgZ⟩ a (modU seq 1000) (modU at_ 10) 0 (Z - 1) false (decide_eq_false fun h => by have := h.2.2.2.1 rfl; simp only at this; omega)
  have n5 := is_v ⟨0, modU seq 1000, a.epoch, modU at_ 10, Z, imgZ⟩ a (modU seq 1000) (modU at_ 10) Z 0 false (decide_eq_false fun h => h.1 rfl)
  rw [← w1] at n1
  rw [← w2] at n2
  rw [← w3] at n3
  rw [← w4] at n4
  subst hN hZ
  refine Fn.of tys_ok Tryd.func6 rfl rfl (Nat.le_of_ble_eq_true rfl) ?_
  conv => whnf
  refine Fn.closed (heavyA_fn a) rfl ?_
  rintro _ rfl
  conv => whnf
  refine boolI (fun t1 => ?_) (fun t1 => ?_) <;> (repeat rw [Int.toNat_natCast] at t1) <;> conv => whnf
  · exact ⟨_, fun _ _ h => h, rfl⟩
  repeat' (refine And.intro (by decide) ?_; conv => whnf)
  refine ACalls.sub _ ?_ (Fn.closed (y1) rfl ?_)
  · repeat' (first | exact trivial | exact fun _ _ h => h | exact nil_sl _ _ | refine And.intro ?_ ?_ | refine ag_sub ?_)
  rintro _ rfl
  conv => whnf
  refine ACalls.sub _ ?_ (Fn.closed (y2) rfl ?_)
  · repeat' (first | exact trivial | exact fun _ _ h => h | exact nil_sl _ _ | refine And.intro ?_ ?_ | refine ag_sub ?_)
  rintro _ rfl
  conv => whnf
  refine And.intro (by decide) ?_
  conv => whnf
  repeat' (first | (refine boolI (fun _ => ?_) (fun _ => ?_) <;> conv => whnf) | (refine aSeq.go ?_; conv => whnf))
  · refine ACalls.sub _ ?_ (Fn.closed (n1) rfl ?_)
    · repeat' (first | exact trivial | exact fun _ _ h => h | exact nil_sl _ _ | refine And.intro ?_ ?_ | refine ag_sub ?_)
    rintro _ rfl
    conv => whnf
    refine Fn.closed (wakes17_fn) rfl ?_
    rintro _ rfl
    conv => whnf
    exact ⟨_, fun _ _ h => h, rfl⟩
  · refine ACalls.sub _ ?_ (Fn.closed (n2) rfl ?_)
    · repeat' (first | exact trivial | exact fun _ _ h => h | exact nil_sl _ _ | refine And.intro ?_ ?_ | refine ag_sub ?_)
    rintro _ rfl
    conv => whnf
    refine Fn.closed (wakes17_fn) rfl ?_
    rintro _ rfl
    conv => whnf
    exact ⟨_, fun _ _ h => h, rfl⟩
  · refine ACalls.sub _ ?_ (Fn.closed (n3) rfl ?_)
    · repeat' (first | exact trivial | exact fun _ _ h => h | exact nil_sl _ _ | refine And.intro ?_ ?_ | refine ag_sub ?_)
    rintro _ rfl
    conv => whnf
    refine Fn.closed (wakes17_fn) rfl ?_
    rintro _ rfl
    conv => whnf
    exact ⟨_, fun _ _ h => h, rfl⟩
  · refine ACalls.sub _ ?_ (Fn.closed (n4) rfl ?_)
    · repeat' (first | exact trivial | exact fun _ _ h => h | exact nil_sl _ _ | refine And.intro ?_ ?_ | refine ag_sub ?_)
    rintro _ rfl
    conv => whnf
    refine Fn.closed (wakes17_fn) rfl ?_
    rintro _ rfl
    conv => whnf
    exact ⟨_, fun _ _ h => h, rfl⟩
  · refine ACalls.sub _ ?_ (Fn.closed (n5) rfl ?_)
    · repeat' (first | exact trivial | exact fun _ _ h => h | exact nil_sl _ _ | refine And.intro ?_ ?_ | refine ag_sub ?_)
    rintro _ rfl
    conv => whnf
    refine Fn.closed (wakes17_fn) rfl ?_
    rintro _ rfl
    conv => whnf
    exact ⟨_, fun _ _ h => h, rfl⟩
end Go.Proofs.YteecmgonbdbhdaaDoor.A
end

/-
The law PairElder.
-/
section
namespace Go.Proofs.YteecmgonbdbhdaaDoor.A
open Go.RowKit

theorem heavyA_no {a : An} (h : heavyA a = false) : a.homes.length ≤ 10 ∧ a.label.size ≤ 200 := by
  simp only [heavyA, Bool.or_eq_false_iff, decide_eq_false_iff_not] at h
  omega
set_option maxRecDepth 100000 in
theorem elder_fn (g : Geo) (a : An) (seq epoch : Int) : Fn Tryd.prog 5 [.ag (geoC g), .ag (anC a), .v (.int .i64 seq), .v (.int .i64 epoch)] fun r => r = .v (.bool true) := by
  have b1 := modU_in (x := seq) (n := 1000000) (by decide) (by decide)
  have b2 := modU_in (x := epoch) (n := 1000000) (by decide) (by decide)
  refine Fn.of tys_ok Tryd.func5 rfl rfl (Nat.le_of_ble_eq_true rfl) ?_
  conv => whnf
  refine Fn.closed (heavyA_fn a) rfl ?_
  rintro _ rfl
  conv => whnf
  refine boolI (fun t1 => ?_) (fun t1 => ?_) <;> (repeat rw [Int.toNat_natCast] at t1) <;> conv => whnf
  · exact ⟨_, fun _ _ h => h, rfl⟩
  refine Fn.closed (rgeom_br g) rfl ?_
  rintro _ rfl
  conv => whnf
  refine boolI (fun t2 => ?_) (fun t2 => ?_) <;> (repeat rw [Int.toNat_natCast] at t2) <;> conv => whnf
  · exact ⟨_, fun _ _ h => h, rfl⟩
  obtain ⟨hh, hl⟩ := heavyA_no t1
  refine Fn.closed (ranchor_fn g a t2 (by omega)) rfl ?_
  rintro _ rfl
  conv => whnf
  refine boolI (fun t3 => ?_) (fun t3 => ?_) <;> (repeat rw [Int.toNat_natCast] at t3) <;> conv => whnf
  · exact ⟨_, fun _ _ h => h, rfl⟩
  obtain ⟨h1, h2, h3, h4, h5⟩ := okG_iff.1 t2
  have k1 : okR g ⟨2, modU seq 1000000, modU epoch 1000000, 1, 2, imgZ⟩ = true := by
    simp [okR, behOk, numsB, inB, noneB, imgZ, t2]
    omega
  have hs : inB 0 0 (g.sl - 1) = true := inB_iff.2 (by omega)
  have hL0 : okL g 0 0 = true := by rw [okL, hs]; rfl
  have hL1 : okL g 1 0 = true := by rw [okL, hs]; rfl
  have c0 := cell17_fn g ⟨2, modU seq 1000000, modU epoch 1000000, 1, 2, imgZ⟩ 0 0 k1 hL0
  have c1 := cell17_fn g ⟨2, modU seq 1000000, modU epoch 1000000, 1, 2, imgZ⟩ 1 0 k1 hL1
  repeat' (refine And.intro (by decide) ?_; conv => whnf)
  by_cases hW : modU epoch 1000000 = a.epoch ∨ modU seq 1000000 ≤ a.last ∧ modU epoch 1000000 ≤ a.epoch
  · have hB : isOne ⟨2, modU seq 1000000, modU epoch 1000000, 1, 2, imgZ⟩ a (modU seq 1000000) 1 2 g.sl = true := decide_eq_true ⟨show (2 : Int) ≠ 0 by decide, rfl, rfl, fun h => absurd h (by decide), fun _ => rfl, hW⟩
    have y := is_v _ _ _ _ _ _ _ hB
    have l := look_is (g := g) (a := a) (x := ⟨0, cellB g ⟨2, modU seq 1000000, modU epoch 1000000, 1, 2, imgZ⟩ 0 0⟩) (y := ⟨0, cellB g ⟨2, modU seq 1000000, modU epoch 1000000, 1, 2, imgZ⟩ 1 0⟩) (slot := 0) (seq := modU seq 1000000) (at_ := 1) (of_ := 2) (left := g.sl) (q := (⟨2, modU seq 1000000, modU epoch 1000000, 1, 2, imgZ⟩, [], 1)) (by omega) (by omega) (cellB_short k1 0 0) (cellB_short k1 1 0) t2 t3 hs (by
      unfold lookR
      rw [says_cell t2 k1 hL0, says_cell t2 k1 hL1]
      simp only [oneO, hB]
      rfl)
    refine ACalls.sub _ ?_ (Fn.closed (y) rfl ?_)
    · repeat' (first | exact trivial | exact fun _ _ h => h | exact nil_sl _ _ | refine And.intro ?_ ?_ | refine ag_sub ?_)
    rintro _ rfl
    conv => whnf
    repeat' (first | (refine boolI (fun _ => ?_) (fun _ => ?_) <;> conv => whnf) | (refine aSeq.go ?_; conv => whnf))
    all_goals cases hD : decide (IntKind.i64.wrap ((IntKind.u64.wrap seq).tmod 1000000) ≤ a.last)
    all_goals first | have hD' := of_decide_eq_false hD | have hD' := of_decide_eq_true hD
    all_goals first
      | (exfalso; clear hD; simp only [modU] at *; omega)
      | skip
    all_goals
      apply aDraw.tree tys_ok mixed (.one 0 (.one 1 (.one 2 (.one 3 (.one 5 (.one 6 (.one 8 (.one 9 (.one 10 (.two 4 (.two 7 (.two 11 (.one 12 (.one 13 (.one 14 (.one 15 (.one 16 (.one 17 (.one 18 (.one 19 (.one 20 (.one 21 .fin)))))))))) 17 (.one 11 (.one 12 (.one 13 (.one 14 (.one 15 (.one 16 (.one 18 (.one 19 (.one 20 (.one 21 .fin))))))))))) 17 (.one 7 (.one 11 (.one 12 (.one 13 (.one 14 (.one 15 (.one 16 (.one 18 (.one 19 (.one 20 (.one 21 .fin)))))))))))) 17 (.one 4 (.one 7 (.one 11 (.one 12 (.one 13 (.one 14 (.one 15 (.one 16 (.one 18 (.one 19 (.one 20 (.one 21 .fin)))))))))))))))))))))) [12, 13, 14, 15, 62, 63, 64, 65, 66, 67, 68, 69, 70, 71, 72, 73, 74, 75, 76, 77, 78] (by kernel_rfl)
      · conv => whnf
        refine And.intro ?_ ?_
        · conv => whnf
          refine ACalls.sub _ ?_ (Fn.closed (c0) rfl ?_)
          · repeat' (first | exact trivial | exact fun _ _ h => h | exact nil_sl _ _ | refine And.intro ?_ ?_ | refine ag_sub ?_)
          rintro _ rfl
          conv => whnf
          refine And.intro ?_ ?_
          · conv => whnf
            refine ACalls.sub _ ?_ (Fn.closed (c1) rfl ?_)
            · repeat' (first | exact trivial | exact fun _ _ h => h | exact nil_sl _ _ | refine And.intro ?_ ?_ | refine ag_sub ?_)
            rintro _ rfl
            conv => whnf
            refine And.intro ?_ ?_
            · conv => whnf
              refine Fn.closed (l) rfl ?_
              rintro _ rfl
              conv => whnf
              exact ⟨rfl, rfl⟩
            · conv => whnf
              refine Fn.closed (l) rfl ?_
              rintro _ rfl
              conv => whnf
              exact ⟨rfl, rfl⟩
          · conv => whnf
            refine ACalls.sub _ ?_ (Fn.closed (c1) rfl ?_)
            · repeat' (first | exact trivial | exact fun _ _ h => h | exact nil_sl _ _ | refine And.intro ?_ ?_ | refine ag_sub ?_)
            rintro _ rfl
            conv => whnf
            refine Fn.closed (l) rfl ?_
            rintro _ rfl
            conv => whnf
            exact ⟨rfl, rfl⟩
        · conv => whnf
          refine ACalls.sub _ ?_ (Fn.closed (c0) rfl ?_)
          · repeat' (first | exact trivial | exact fun _ _ h => h | exact nil_sl _ _ | refine And.intro ?_ ?_ | refine ag_sub ?_)
          rintro _ rfl
          conv => whnf
          refine ACalls.sub _ ?_ (Fn.closed (c1) rfl ?_)
          · repeat' (first | exact trivial | exact fun _ _ h => h | exact nil_sl _ _ | refine And.intro ?_ ?_ | refine ag_sub ?_)
          rintro _ rfl
          conv => whnf
          refine Fn.closed (l) rfl ?_
          rintro _ rfl
          conv => whnf
          exact ⟨rfl, rfl⟩
      conv => whnf
      refine Fn.closed (wakes17_fn) rfl ?_
      rintro _ rfl
      conv => whnf
      exact ⟨_, fun _ _ h => h, rfl⟩
  · have hB : isOne ⟨2, modU seq 1000000, modU epoch 1000000, 1, 2, imgZ⟩ a (modU seq 1000000) 1 2 g.sl = false := decide_eq_false fun h => hW h.2.2.2.2.2
    have y := is_v _ _ _ _ _ _ _ hB
    have l := look_is (g := g) (a := a) (x := ⟨0, cellB g ⟨2, modU seq 1000000, modU epoch 1000000, 1, 2, imgZ⟩ 0 0⟩) (y := ⟨0, cellB g ⟨2, modU seq 1000000, modU epoch 1000000, 1, 2, imgZ⟩ 1 0⟩) (slot := 0) (seq := modU seq 1000000) (at_ := 1) (of_ := 2) (left := g.sl) (q := (zeroC, [], 2)) (by omega) (by omega) (cellB_short k1 0 0) (cellB_short k1 1 0) t2 t3 hs (by
      unfold lookR
      rw [says_cell t2 k1 hL0, says_cell t2 k1 hL1]
      simp only [oneO, hB]
      rfl)
    refine ACalls.sub _ ?_ (Fn.closed (y) rfl ?_)
    · repeat' (first | exact trivial | exact fun _ _ h => h | exact nil_sl _ _ | refine And.intro ?_ ?_ | refine ag_sub ?_)
    rintro _ rfl
    conv => whnf
    repeat' (first | (refine boolI (fun _ => ?_) (fun _ => ?_) <;> conv => whnf) | (refine aSeq.go ?_; conv => whnf))
    all_goals cases hD : decide (IntKind.i64.wrap ((IntKind.u64.wrap seq).tmod 1000000) ≤ a.last)
    all_goals first | have hD' := of_decide_eq_false hD | have hD' := of_decide_eq_true hD
    all_goals first
      | (exfalso; clear hD; simp only [modU] at *; omega)
      | skip
    all_goals
      apply aDraw.tree tys_ok mixed (.one 0 (.one 1 (.one 2 (.one 3 (.one 5 (.one 6 (.one 8 (.one 9 (.one 10 (.two 4 (.two 7 (.two 11 (.one 12 (.one 13 (.one 14 (.one 15 (.one 16 (.one 17 (.one 18 (.one 19 (.one 20 (.one 21 .fin)))))))))) 17 (.one 11 (.one 12 (.one 13 (.one 14 (.one 15 (.one 16 (.one 18 (.one 19 (.one 20 (.one 21 .fin))))))))))) 17 (.one 7 (.one 11 (.one 12 (.one 13 (.one 14 (.one 15 (.one 16 (.one 18 (.one 19 (.one 20 (.one 21 .fin)))))))))))) 17 (.one 4 (.one 7 (.one 11 (.one 12 (.one 13 (.one 14 (.one 15 (.one 16 (.one 18 (.one 19 (.one 20 (.one 21 .fin)))))))))))))))))))))) [12, 13, 14, 15, 62, 63, 64, 65, 66, 67, 68, 69, 70, 71, 72, 73, 74, 75, 76, 77, 78] (by kernel_rfl)
      · conv => whnf
        refine And.intro ?_ ?_
        · conv => whnf
          refine ACalls.sub _ ?_ (Fn.closed (c0) rfl ?_)
          · repeat' (first | exact trivial | exact fun _ _ h => h | exact nil_sl _ _ | refine And.intro ?_ ?_ | refine ag_sub ?_)
          rintro _ rfl
          conv => whnf
          refine And.intro ?_ ?_
          · conv => whnf
            refine ACalls.sub _ ?_ (Fn.closed (c1) rfl ?_)
            · repeat' (first | exact trivial | exact fun _ _ h => h | exact nil_sl _ _ | refine And.intro ?_ ?_ | refine ag_sub ?_)
            rintro _ rfl
            conv => whnf
            refine And.intro ?_ ?_
            · conv => whnf
              refine Fn.closed (l) rfl ?_
              rintro _ rfl
              conv => whnf
              exact ⟨rfl, rfl⟩
            · conv => whnf
              refine Fn.closed (l) rfl ?_
              rintro _ rfl
              conv => whnf
              exact ⟨rfl, rfl⟩
          · conv => whnf
            refine ACalls.sub _ ?_ (Fn.closed (c1) rfl ?_)
            · repeat' (first | exact trivial | exact fun _ _ h => h | exact nil_sl _ _ | refine And.intro ?_ ?_ | refine ag_sub ?_)
            rintro _ rfl
            conv => whnf
            refine Fn.closed (l) rfl ?_
            rintro _ rfl
            conv => whnf
            exact ⟨rfl, rfl⟩
        · conv => whnf
          refine ACalls.sub _ ?_ (Fn.closed (c0) rfl ?_)
          · repeat' (first | exact trivial | exact fun _ _ h => h | exact nil_sl _ _ | refine And.intro ?_ ?_ | refine ag_sub ?_)
          rintro _ rfl
          conv => whnf
          refine ACalls.sub _ ?_ (Fn.closed (c1) rfl ?_)
          · repeat' (first | exact trivial | exact fun _ _ h => h | exact nil_sl _ _ | refine And.intro ?_ ?_ | refine ag_sub ?_)
          rintro _ rfl
          conv => whnf
          refine Fn.closed (l) rfl ?_
          rintro _ rfl
          conv => whnf
          exact ⟨rfl, rfl⟩
      conv => whnf
      refine Fn.closed (wakes17_fn) rfl ?_
      rintro _ rfl
      conv => whnf
      exact ⟨_, fun _ _ h => h, rfl⟩
end Go.Proofs.YteecmgonbdbhdaaDoor.A
end

/-
The law PairExact.
-/
section
namespace Go.Proofs.YteecmgonbdbhdaaDoor.A
open Go.RowKit

theorem row_sub {α : Type} {f : α → List AV} {d : α} {sz : Nat} {es : List (List AV)} {n : Nat} (l : List α) (hn : n = l.length) (he : es = l.map f) (c : Ctx) (u : Value) (h : Rd (.sl sz n fun i => es.getD i []) c u) : Rd (.sl sz l.length fun i => f (l.getD i d)) c u :=
  Rd.congr hn (fun i hi => by rw [he, map_getD (d := d) (by omega)]) h
theorem rec_same (r : Rc) (h : r.img.bytes.length ≤ 100000000000) : Fn Tryd.prog 19 [.ag (rcC r), .ag (rcC r)] fun x => x = .v (.bool true) := by
  have := rec_fn r r h
  rw [decide_eq_true rfl] at this
  exact this
theorem ints_same (l : List Int) (h : l.length ≤ 100000000000) : Fn Tryd.prog 24 [iA l, iA l] fun x => x = .v (.bool true) := by
  have := ints_fn l l h
  rw [decide_eq_true rfl] at this
  exact this
theorem saysR_none {g : Geo} {x : Gt} {copy slot : Int} (h : (okG g && okL g copy slot) = false) : saysR g x copy slot = none := by
  unfold saysR
  rw [h]
  rfl
theorem saysR_len {g : Geo} {x : Gt} {copy slot : Int} {r : Rc} (h : saysR g x copy slot = some r) : r.img.bytes.length ≤ x.bytes.length := by
  unfold saysR at h
  split at h
  · rename_i hc
    split at h
    · rename_i q hq
      split at h
      · cases h
        have h1 := (readR_some hq).2
        have h2 : (recB r).length = (secPay x.bytes).length := by rw [h1]
        have h3 : (secPay x.bytes).length ≤ x.bytes.length := by simp [secPay]; omega
        have hok := (readR_some hq).1
        have h4 := recB_len hok
        split at h4
        · omega
        · rename_i hk
          have : r.img.bytes.length = 0 := by
            unfold okR behOk at hok
            simp only [Bool.and_eq_true] at hok
            have hok := hok.2
            split at hok
            · simp only [noneB, Bool.and_eq_true, beq_iff_eq] at hok; omega
            · split at hok
              · simp only [noneB, Bool.and_eq_true, beq_iff_eq] at hok; omega
              · cases hok
          omega
      · cases h
    · cases h
  · cases h
theorem lookR_len {g : Geo} {a : An} {x y : Gt} {slot seq at_ of_ left : Int} {m : Nat} (hx : x.bytes.length ≤ m) (hy : y.bytes.length ≤ m) : (lookR g a x y slot seq at_ of_ left).1.img.bytes.length ≤ m ∧ (lookR g a x y slot seq at_ of_ left).2.1.length ≤ 1 := by
  have h1 : ((saysR g x 0 slot).getD zeroC).img.bytes.length ≤ m := by
    cases h : saysR g x 0 slot with
    | none => exact Nat.zero_le _
    | some r => exact Nat.le_trans (saysR_len h) hx
  have h2 : ((saysR g y 1 slot).getD zeroC).img.bytes.length ≤ m := by
    cases h : saysR g y 1 slot with
    | none => exact Nat.zero_le _
    | some r => exact Nat.le_trans (saysR_len h) hy
  unfold lookR lookT
  repeat' split
  all_goals first | exact ⟨h1, by simp⟩ | exact ⟨h2, by simp⟩ | exact ⟨Nat.zero_le _, by simp⟩
set_option maxRecDepth 100000 in
theorem exact17_fn (g : Geo) (a : An) (x y : Gt) (r : Rc) (slot seq at_ of_ left : Int) : Fn Tryd.prog 3 [.ag (geoC g), .ag (anC a), .ag (gotC x), .ag (gotC y), .ag (rcC r), .ag (arrC [slot, seq, at_, of_, left])] fun r => r = .v (.bool true) := by
  refine Fn.of tys_ok Tryd.func3 rfl rfl (Nat.le_of_ble_eq_true rfl) ?_
  conv => whnf
  refine aDraw.of tys_ok mixed [0, 1, 2, 3, 4, 5, 6, 7, 8, 9, 10, 11, 12, 13, 14] (by kernel_rfl) ?_
  conv => whnf
  repeat' (refine And.intro (by decide) ?_; conv => whnf)
  refine Fn.closed (heavyA_fn a) rfl ?_
  rintro _ rfl
  conv => whnf
  refine boolI (fun t1 => ?_) (fun t1 => ?_) <;> (repeat rw [Int.toNat_natCast] at t1) <;> conv => whnf
  · exact ⟨_, fun _ _ h => h, rfl⟩
  obtain ⟨hh, hl⟩ := heavyA_no t1
  refine ACalls.shut (heavyG_fn [x, y]).go ?_
  conv => whnf
  repeat' (refine And.intro (by first | rfl | omega | simp) ?_; conv => whnf)
  refine ACalls.sub _ ?_ (Fn.closed (heavyG_fn [x, y]) rfl ?_)
  · repeat' (first | exact trivial | exact fun _ _ h => h | exact nil_sl _ _ | exact row_sub [x, y] rfl rfl | refine And.intro ?_ ?_ | refine ag_sub ?_)
  rintro _ rfl
  conv => whnf
  refine boolI (fun t2 => ?_) (fun t2 => ?_) <;> (repeat rw [Int.toNat_natCast] at t2) <;> conv => whnf
  · exact ⟨_, fun _ _ h => h, rfl⟩
  obtain ⟨-, hb⟩ := heavyG_no t2
  have hx := hb x (by simp)
  have hy := hb y (by simp)
  refine boolI (fun t3 => ?_) (fun t3 => ?_) <;> (repeat rw [Int.toNat_natCast] at t3) <;> conv => whnf
  · exact ⟨_, fun _ _ h => h, rfl⟩
  have s1 := says_fn g x 0 slot (by omega)
  have s2 := look_fn g a x y slot seq at_ of_ left (by omega) (by omega) (by omega) (by omega)
  have s3 := is_fn r a seq at_ of_ left
  have s4 := rone_fn r a seq at_ of_ left
  have s5 := says_fn g x 2 slot (by omega)
  rw [saysR_none (copy := 2) (by rw [okL]; simp [inB])] at s5
  have s6 := rgeom_br g
  have z := rec_same zeroC (by decide)
  generalize isOne r a seq at_ of_ left = B at s3 s4
  cases hC : okG g && inB slot 0 (g.sl - 1) with
  | false =>
    rw [saysR_none (copy := 0) (by rw [okL, ← Bool.and_assoc, Bool.and_comm (okG g), Bool.and_assoc, hC, Bool.and_false])] at s1
    rw [show (okG g && anOk g a && inB slot 0 (g.sl - 1)) = false by rw [Bool.and_comm (okG g), Bool.and_assoc, hC, Bool.and_false]] at s2
    simp only [Bool.false_eq_true, if_false] at s2
    refine Fn.closed (s1) rfl ?_
    rintro _ rfl
    conv => whnf
    refine Fn.closed (s2) rfl ?_
    rintro _ rfl
    conv => whnf
    cases B
    all_goals
      refine aDraw.of tys_ok mixed [0, 1, 2, 3, 4, 5, 7, 8, 9, 10, 11, 12, 6, 13, 14] (by kernel_rfl) ?_
      conv => whnf
      refine Fn.closed (s3) rfl ?_
      rintro _ rfl
      conv => whnf
      refine Fn.closed (s4) rfl ?_
      rintro _ rfl
      conv => whnf
      refine Fn.closed (s5) rfl ?_
      rintro _ rfl
      conv => whnf
      refine Fn.closed (s6) rfl ?_
      rintro _ rfl
      conv => whnf
      have fin : okG g = true → 0 ≤ slot → slot < g.sl → False := fun q1 q2 q3 => by
        rw [q1, show inB slot 0 (g.sl - 1) = true from inB_iff.2 (by omega)] at hC
        cases hC
      refine boolI (fun t4 => ?_) (fun t4 => ?_) <;> (repeat rw [Int.toNat_natCast] at t4) <;> conv => whnf
      · refine ACalls.sub _ ?_ (Fn.closed (z) rfl ?_)
        · repeat' (first | exact trivial | exact fun _ _ h => h | exact nil_sl _ _ | refine And.intro ?_ ?_ | refine ag_sub ?_)
        rintro _ rfl
        conv => whnf
        refine ACalls.sub _ ?_ (Fn.closed (z) rfl ?_)
        · repeat' (first | exact trivial | exact fun _ _ h => h | exact nil_sl _ _ | refine And.intro ?_ ?_ | refine ag_sub ?_)
        rintro _ rfl
        conv => whnf
        refine Fn.closed (wakes17_fn) rfl ?_
        rintro _ rfl
        conv => whnf
        exact ⟨_, fun _ _ h => h, rfl⟩
      refine boolI (fun t5 => ?_) (fun t5 => ?_) <;> (repeat rw [Int.toNat_natCast] at t5) <;> conv => whnf
      · refine ACalls.sub _ ?_ (Fn.closed (z) rfl ?_)
        · repeat' (first | exact trivial | exact fun _ _ h => h | exact nil_sl _ _ | refine And.intro ?_ ?_ | refine ag_sub ?_)
        rintro _ rfl
        conv => whnf
        refine ACalls.sub _ ?_ (Fn.closed (z) rfl ?_)
        · repeat' (first | exact trivial | exact fun _ _ h => h | exact nil_sl _ _ | refine And.intro ?_ ?_ | refine ag_sub ?_)
        rintro _ rfl
        conv => whnf
        refine Fn.closed (wakes17_fn) rfl ?_
        rintro _ rfl
        conv => whnf
        exact ⟨_, fun _ _ h => h, rfl⟩
      refine boolI (fun t6 => ?_) (fun t6 => ?_) <;> (repeat rw [Int.toNat_natCast] at t6) <;> conv => whnf
      · refine ACalls.sub _ ?_ (Fn.closed (z) rfl ?_)
        · repeat' (first | exact trivial | exact fun _ _ h => h | exact nil_sl _ _ | refine And.intro ?_ ?_ | refine ag_sub ?_)
        rintro _ rfl
        conv => whnf
        refine ACalls.sub _ ?_ (Fn.closed (z) rfl ?_)
        · repeat' (first | exact trivial | exact fun _ _ h => h | exact nil_sl _ _ | refine And.intro ?_ ?_ | refine ag_sub ?_)
        rintro _ rfl
        conv => whnf
        refine Fn.closed (wakes17_fn) rfl ?_
        rintro _ rfl
        conv => whnf
        exact ⟨_, fun _ _ h => h, rfl⟩
      · exact (fin t4 t5 t6).elim
  | true =>
    simp only [Bool.and_eq_true] at hC
    obtain ⟨hg, hs⟩ := hC
    have hs2 := inB_iff.1 hs
    have hL : okL g 0 slot = true := by rw [okL, hs]; rfl
    have s7 := recSays_fn g x 0 slot (by omega) hg hL
    have s8 := ranchor_fn g a hg (by omega)
    have s9 := rlook_fn g a x y slot seq at_ of_ left hg hs (by omega) (by omega)
    have n1 := lookR_len (g := g) (a := a) (slot := slot) (seq := seq) (at_ := at_) (of_ := of_) (left := left) hx hy
    have n2 : ((saysR g x 0 slot).getD zeroC).img.bytes.length ≤ 300 := by
      cases h : saysR g x 0 slot with
      | none => exact Nat.zero_le _
      | some r => exact Nat.le_trans (saysR_len h) hx
    rw [hg] at s6
    rw [hg, hs, Bool.and_true, Bool.true_and] at s2
    generalize saysR g x 0 slot = P at s1 s7 n2
    generalize lookR g a x y slot seq at_ of_ left = Q at s2 s9 n1
    have z1 := rec_same (P.getD zeroC) (by omega)
    have z2 := rec_same Q.1 (by omega)
    have z3 := ints_same Q.2.1 (by omega)
    cases hA : anOk g a
    all_goals
      rw [hA] at s2 s8
      simp only [Bool.false_eq_true, if_false, if_true] at s2
      cases B
    all_goals
      cases hP : P.isSome
    all_goals
      rw [hP] at s1 s7
      refine Fn.closed (s1) rfl ?_
      rintro _ rfl
      conv => whnf
      refine Fn.closed (s2) rfl ?_
      rintro _ rfl
      conv => whnf
      refine aDraw.of tys_ok mixed [0, 1, 2, 3, 4, 5, 7, 8, 9, 10, 11, 12, 6, 13, 14] (by kernel_rfl) ?_
      conv => whnf
      refine Fn.closed (s3) rfl ?_
      rintro _ rfl
      conv => whnf
      refine Fn.closed (s4) rfl ?_
      rintro _ rfl
      conv => whnf
      refine Fn.closed (s5) rfl ?_
      rintro _ rfl
      conv => whnf
      refine Fn.closed (s6) rfl ?_
      rintro _ rfl
      conv => whnf
      refine boolI (fun t5 => ?_) (fun t5 => ?_) <;> (repeat rw [Int.toNat_natCast] at t5) <;> conv => whnf
      · exfalso; omega
      refine boolI (fun t6 => ?_) (fun t6 => ?_) <;> (repeat rw [Int.toNat_natCast] at t6) <;> conv => whnf
      · exfalso; omega
      refine Fn.closed (s7) rfl ?_
      rintro _ rfl
      conv => whnf
      refine Fn.closed (z1) rfl ?_
      rintro _ rfl
      conv => whnf
      refine Fn.closed (s8) rfl ?_
      rintro _ rfl
      conv => whnf
    · refine ACalls.sub _ ?_ (Fn.closed (z) rfl ?_)
      · repeat' (first | exact trivial | exact fun _ _ h => h | exact nil_sl _ _ | refine And.intro ?_ ?_ | refine ag_sub ?_)
      rintro _ rfl
      conv => whnf
      refine Fn.closed (wakes17_fn) rfl ?_
      rintro _ rfl
      conv => whnf
      exact ⟨_, fun _ _ h => h, rfl⟩
    · refine ACalls.sub _ ?_ (Fn.closed (z) rfl ?_)
      · repeat' (first | exact trivial | exact fun _ _ h => h | exact nil_sl _ _ | refine And.intro ?_ ?_ | refine ag_sub ?_)
      rintro _ rfl
      conv => whnf
      refine Fn.closed (wakes17_fn) rfl ?_
      rintro _ rfl
      conv => whnf
      exact ⟨_, fun _ _ h => h, rfl⟩
    · refine ACalls.sub _ ?_ (Fn.closed (z) rfl ?_)
      · repeat' (first | exact trivial | exact fun _ _ h => h | exact nil_sl _ _ | refine And.intro ?_ ?_ | refine ag_sub ?_)
      rintro _ rfl
      conv => whnf
      refine Fn.closed (wakes17_fn) rfl ?_
      rintro _ rfl
      conv => whnf
      exact ⟨_, fun _ _ h => h, rfl⟩
    · refine ACalls.sub _ ?_ (Fn.closed (z) rfl ?_)
      · repeat' (first | exact trivial | exact fun _ _ h => h | exact nil_sl _ _ | refine And.intro ?_ ?_ | refine ag_sub ?_)
      rintro _ rfl
      conv => whnf
      refine Fn.closed (wakes17_fn) rfl ?_
      rintro _ rfl
      conv => whnf
      exact ⟨_, fun _ _ h => h, rfl⟩
    · refine Fn.closed (s9) rfl ?_
      rintro _ rfl
      conv => whnf
      refine boolI (fun tq => ?_) (fun tq => ?_) <;> (repeat rw [Int.toNat_natCast] at tq) <;> conv => whnf
      · refine Fn.closed (z2) rfl ?_
        rintro _ rfl
        conv => whnf
        refine Fn.closed (z3) rfl ?_
        rintro _ rfl
        conv => whnf
        refine Fn.closed (wakes17_fn) rfl ?_
        rintro _ rfl
        conv => whnf
        exact ⟨_, fun _ _ h => h, rfl⟩
      · exact absurd rfl tq
    · refine Fn.closed (s9) rfl ?_
      rintro _ rfl
      conv => whnf
      refine boolI (fun tq => ?_) (fun tq => ?_) <;> (repeat rw [Int.toNat_natCast] at tq) <;> conv => whnf
      · refine Fn.closed (z2) rfl ?_
        rintro _ rfl
        conv => whnf
        refine Fn.closed (z3) rfl ?_
        rintro _ rfl
        conv => whnf
        refine Fn.closed (wakes17_fn) rfl ?_
        rintro _ rfl
        conv => whnf
        exact ⟨_, fun _ _ h => h, rfl⟩
      · exact absurd rfl tq
    · refine Fn.closed (s9) rfl ?_
      rintro _ rfl
      conv => whnf
      refine boolI (fun tq => ?_) (fun tq => ?_) <;> (repeat rw [Int.toNat_natCast] at tq) <;> conv => whnf
      · refine Fn.closed (z2) rfl ?_
        rintro _ rfl
        conv => whnf
        refine Fn.closed (z3) rfl ?_
        rintro _ rfl
        conv => whnf
        refine Fn.closed (wakes17_fn) rfl ?_
        rintro _ rfl
        conv => whnf
        exact ⟨_, fun _ _ h => h, rfl⟩
      · exact absurd rfl tq
    · refine Fn.closed (s9) rfl ?_
      rintro _ rfl
      conv => whnf
      refine boolI (fun tq => ?_) (fun tq => ?_) <;> (repeat rw [Int.toNat_natCast] at tq) <;> conv => whnf
      · refine Fn.closed (z2) rfl ?_
        rintro _ rfl
        conv => whnf
        refine Fn.closed (z3) rfl ?_
        rintro _ rfl
        conv => whnf
        refine Fn.closed (wakes17_fn) rfl ?_
        rintro _ rfl
        conv => whnf
        exact ⟨_, fun _ _ h => h, rfl⟩
      · exact absurd rfl tq
end Go.Proofs.YteecmgonbdbhdaaDoor.A
end
