/-
Several texts in one.
-/
import Derived.Test.YteecmgonbdbhdaaDoorComP5
import Derived.Test.YteecmgonbdbhdaaDoorComP1
import Derived.Test.YteecmgonbdbhdaaDoorComP4
import Derived.Test.YteecmgonbdbhdaaDoorComP3

/-
The law PairOthers.
-/
section
namespace Go.Proofs.YteecmgonbdbhdaaDoor.A
open Go.RowKit

theorem is_v (r : Rc) (a : An) (seq at_ of_ left : Int) (b : Bool) (h : isOne r a seq at_ of_ left = b) : Fn Tryd.prog 16 [.ag (rcC r), .ag (anC a), .v (.int .i64 seq), .v (.int .i64 at_), .v (.int .i64 of_), .v (.int .i64 left)] fun x => x = .v (.bool b) := by
  have := is_fn r a seq at_ of_ left
  rw [h] at this
  exact this
def imgZ : Img := ⟨0, 0, []⟩
theorem others_fn (a : An) (seq at_ of_ how n : Int) : Fn Tryd.prog 6 [.ag (anC a), .v (.int .i64 seq), .v (.int .i64 at_), .v (.int .i64 of_), .v (.int .i64 how), .v (.int .i64 n)] fun r => r = .v (.bool true) := by
  have b1 := modU_in (x := seq) (n := 1000) (by decide) (by decide)
  have b2 := modU_in (x := at_) (n := 10) (by decide) (by decide)
  have b3 := modU_in (x := n) (n := 10) (by decide) (by decide)
  have b4 := modU_in (x := of_) (n := 10) (by decide) (by decide)
  obtain ⟨Z, hZ⟩ : ∃ Z, Z = IntKind.i64.wrap (IntKind.i64.wrap (modU at_ 10 + 1) + modU of_ 10) := ⟨_, rfl⟩
  have eZ : Z = modU at_ 10 + 1 + modU of_ 10 := by rw [hZ, wi (n := modU at_ 10 + 1) (by omega), wi (by omega)]
  obtain ⟨N, hN⟩ : ∃ N, N = IntKind.i64.wrap (1 + modU n 10) := ⟨_, rfl⟩
  have eN : N = 1 + modU n 10 := by rw [hN, wi (by omega)]
  have w1 : IntKind.i64.wrap (modU seq 1000 + N) = modU seq 1000 + N := wi (by omega)
  have w2 : IntKind.i64.wrap (modU at_ 10 + N) = modU at_ 10 + N := wi (by omega)
  have w3 : IntKind.i64.wrap (Z + N) = Z + N := wi (by omega)
  have w4 : IntKind.i64.wrap (Z - 1) = Z - 1 := wi (by omega)
  have y1 := is_v ⟨1, modU seq 1000, a.epoch, modU at_ 10, Z, imgZ⟩ a (modU seq 1000) (modU at_ 10) Z 0 true (decide_eq_true ⟨show (1 : Int) ≠ 0 by decide, rfl, rfl, fun h => by omega, fun _ => rfl, .inl rfl⟩)
  have y2 := is_v ⟨1, modU seq 1000, a.epoch, modU at_ 10, Z, imgZ⟩ a (modU seq 1000) (modU at_ 10) 0 Z true (decide_eq_true ⟨show (1 : Int) ≠ 0 by decide, rfl, rfl, fun _ => Int.le_refl _, fun h => absurd rfl h, .inl rfl⟩)
  have n1 := is_v ⟨1, modU seq 1000, a.epoch, modU at_ 10, Z, imgZ⟩ a (modU seq 1000 + N) (modU at_ 10) Z 0 false (decide_eq_false (by simp only; omega))
  have n2 := is_v ⟨1, modU seq 1000, a.epoch, modU at_ 10, Z, imgZ⟩ a (modU seq 1000) (modU at_ 10 + N) Z 0 false (decide_eq_false (by simp only; omega))
  have n3 := is_v ⟨1, modU seq 1000, a.epoch, modU at_ 10, Z, imgZ⟩ a (modU seq 1000) (modU at_ 10) (Z + N) 0 false (decide_eq_false (by simp only; omega))
  have n4 := is_v ⟨1, modU seq 1000, a.epoch, modU at_ 10, Z, imgZ⟩ a (modU seq 1000) (modU at_ 10) 0 (Z - 1) false (decide_eq_false fun h => by have := h.2.2.2.1 rfl; simp only at this; omega)
  have n5 := is_v ⟨0, modU seq 1000, a.epoch, modU at_ 10, Z, imgZ⟩ a (modU seq 1000) (modU at_ 10) Z 0 false (decide_eq_false fun h => h.1 rfl)
  rw [← w1] at n1
  rw [← w2] at n2
  rw [← w3] at n3
  rw [← w4] at n4
  subst hN hZ
  refine Fn.of tys_ok Tryd.func6 rfl rfl (Nat.le_of_ble_eq_true rfl) ?_
  conv => whnf
  refine Fn.closed (heavyA_fn a) rfl ?_
  rintro _ rfl
  conv => whnf
  refine boolI (fun t1 => ?_) (fun t1 => ?_) <;> (repeat rw [Int.toNat_natCast] at t1) <;> conv => whnf
  · exact ⟨_, fun _ _ h => h, rfl⟩
  repeat' (refine And.intro (by decide) ?_; conv => whnf)
  refine ACalls.sub _ ?_ (Fn.closed (y1) rfl ?_)
  · repeat' (first | exact trivial | exact fun _ _ h => h | exact nil_sl _ _ | refine And.intro ?_ ?_ | refine ag_sub ?_)
  rintro _ rfl
  conv => whnf
  refine ACalls.sub _ ?_ (Fn.closed (y2) rfl ?_)
  · repeat' (first | exact trivial | exact fun _ _ h => h | exact nil_sl _ _ | refine And.intro ?_ ?_ | refine ag_sub ?_)
  rintro _ rfl
  conv => whnf
  refine And.intro (by decide) ?_
  conv => whnf
  repeat' (first | (refine boolI (fun _ => ?_) (fun _ => ?_) <;> conv => whnf) | (refine aSeq.go ?_; conv => whnf))
  · refine ACalls.sub _ ?_ (Fn.closed (n1) rfl ?_)
    · repeat' (first | exact trivial | exact fun _ _ h => h | exact nil_sl _ _ | refine And.intro ?_ ?_ | refine ag_sub ?_)
    rintro _ rfl
    conv => whnf
    refine Fn.closed (wakes17_fn) rfl ?_
    rintro _ rfl
    conv => whnf
    exact ⟨_, fun _ _ h => h, rfl⟩
  · refine ACalls.sub _ ?_ (Fn.closed (n2) rfl ?_)
    · repeat' (first | exact trivial | exact fun _ _ h => h | exact nil_sl _ _ | refine And.intro ?_ ?_ | refine ag_sub ?_)
    rintro _ rfl
    conv => whnf
    refine Fn.closed (wakes17_fn) rfl ?_
    rintro _ rfl
    conv => whnf
    exact ⟨_, fun _ _ h => h, rfl⟩
  · refine ACalls.sub _ ?_ (Fn.closed (n3) rfl ?_)
    · repeat' (first | exact trivial | exact fun _ _ h => h | exact nil_sl _ _ | refine And.intro ?_ ?_ | refine ag_sub ?_)
    rintro _ rfl
    conv => whnf
    refine Fn.closed (wakes17_fn) rfl ?_
    rintro _ rfl
    conv => whnf
    exact ⟨_, fun _ _ h => h, rfl⟩
  · refine ACalls.sub _ ?_ (Fn.closed (n4) rfl ?_)
    · repeat' (first | exact trivial | exact fun _ _ h => h | exact nil_sl _ _ | refine And.intro ?_ ?_ | refine ag_sub ?_)
    rintro _ rfl
    conv => whnf
    refine Fn.closed (wakes17_fn) rfl ?_
    rintro _ rfl
    conv => whnf
    exact ⟨_, fun _ _ h => h, rfl⟩
  · refine ACalls.sub _ ?_ (Fn.closed (n5) rfl ?_)
    · repeat' (first | exact trivial | exact fun _ _ h => h | exact nil_sl _ _ | refine And.intro ?_ ?_ | refine ag_sub ?_)
    rintro _ rfl
    conv => whnf
    refine Fn.closed (wakes17_fn) rfl ?_
    rintro _ rfl
    conv => whnf
    exact ⟨_, fun _ _ h => h, rfl⟩
end Go.Proofs.YteecmgonbdbhdaaDoor.A
end

/-
The law PairElder.
-/
section
namespace Go.Proofs.YteecmgonbdbhdaaDoor.A
open Go.RowKit

theorem heavyA_no {a : An} (h : heavyA a = false) : a.homes.length ≤ 10 ∧ a.label.size ≤ 200 := by
  simp only [heavyA, Bool.or_eq_false_iff, decide_eq_false_iff_not] at h
  omega
set_option maxRecDepth 100000 in
theorem elder_fn (g : Geo) (a : An) (seq epoch : Int) : Fn Tryd.prog 5 [.ag (geoC g), .ag (anC a), .v (.int .i64 seq), .v (.int .i64 epoch)] fun r => r = .v (.bool true) := by
  have b1 := modU_in (x := seq) (n := 1000000) (by decide) (by decide)
  have b2 := modU_in (x := epoch) (n := 1000000) (by decide) (by decide)
  refine Fn.of tys_ok Tryd.func5 rfl rfl (Nat.le_of_ble_eq_true rfl) ?_
  conv => whnf
  refine Fn.closed (heavyA_fn a) rfl ?_
  rintro _ rfl
  conv => whnf
  refine boolI (fun t1 => ?_) (fun t1 => ?_) <;> (repeat rw [Int.toNat_natCast] at t1) <;> conv => whnf
  · exact ⟨_, fun _ _ h => h, rfl⟩
  refine Fn.closed (rgeom_br g) rfl ?_
  rintro _ rfl
  conv => whnf
  refine boolI (fun t2 => ?_) (fun t2 => ?_) <;> (repeat rw [Int.toNat_natCast] at t2) <;> conv => whnf
  · exact ⟨_, fun _ _ h => h, rfl⟩
  obtain ⟨hh, hl⟩ := heavyA_no t1
  refine Fn.closed (ranchor_fn g a t2 (by omega)) rfl ?_
  rintro _ rfl
  conv => whnf
  refine boolI (fun t3 => ?_) (fun t3 => ?_) <;> (repeat rw [Int.toNat_natCast] at t3) <;> conv => whnf
  · exact ⟨_, fun _ _ h => h, rfl⟩
  obtain ⟨h1, h2, h3, h4, h5⟩ := okG_iff.1 t2
  have k1 : okR g ⟨2, modU seq 1000000, modU epoch 1000000, 1, 2, imgZ⟩ = true := by
    simp [okR, behOk, numsB, inB, noneB, imgZ, t2]
    omega
  have hs : inB 0 0 (g.sl - 1) = true := inB_iff.2 (by omega)
  have hL0 : okL g 0 0 = true := by rw [okL, hs]; rfl
  have hL1 : okL g 1 0 = true := by rw [okL, hs]; rfl
  have c0 := cell17_fn g ⟨2, modU seq 1000000, modU epoch 1000000, 1, 2, imgZ⟩ 0 0 k1 hL0
  have c1 := cell17_fn g ⟨2, modU seq 1000000, modU epoch 1000000, 1, 2, imgZ⟩ 1 0 k1 hL1
  repeat' (refine And.intro (by decide) ?_; conv => whnf)
  by_cases hW : modU epoch 1000000 = a.epoch ∨ modU seq 1000000 ≤ a.last ∧ modU epoch 1000000 ≤ a.epoch
  · have hB : isOne ⟨2, modU seq 1000000, modU epoch 1000000, 1, 2, imgZ⟩ a (modU seq 1000000) 1 2 g.sl = true := decide_eq_true ⟨show (2 : Int) ≠ 0 by decide, rfl, rfl, fun h => absurd h (by decide), fun _ => rfl, hW⟩
    have y := is_v _ _ _ _ _ _ _ hB
    have l := look_is (g := g) (a := a) (x := ⟨0, cellB g ⟨2, modU seq 1000000, modU epoch 1000000, 1, 2, imgZ⟩ 0 0⟩) (y := ⟨0, cellB g ⟨2, modU seq 1000000, modU epoch 1000000, 1, 2, imgZ⟩ 1 0⟩) (slot := 0) (seq := modU seq 1000000) (at_ := 1) (of_ := 2) (left := g.sl) (q := (⟨2, modU seq 1000000, modU epoch 1000000, 1, 2, imgZ⟩, [], 1)) (by omega) (by omega) (cellB_short k1 0 0) (cellB_short k1 1 0) t2 t3 hs (by
      unfold lookR
      rw [says_cell t2 k1 hL0, says_cell t2 k1 hL1]
      simp only [oneO, hB]
      rfl)
    refine ACalls.sub _ ?_ (Fn.closed (y) rfl ?_)
    · repeat' (first | exact trivial | exact fun _ _ h => h | exact nil_sl _ _ | refine And.intro ?_ ?_ | refine ag_sub ?_)
    rintro _ rfl
    conv => whnf
    repeat' (first | (refine boolI (fun _ => ?_) (fun _ => ?_) <;> conv => whnf) | (refine aSeq.go ?_; conv => whnf))
    all_goals cases hD : decide (IntKind.i64.wrap ((IntKind.u64.wrap seq).tmod 1000000) ≤ a.last)
    all_goals first | have hD' := of_decide_eq_false hD | have hD' := of_decide_eq_true hD
    all_goals first
      | (exfalso; clear hD; simp only [modU] at *; omega)
      | skip
    all_goals
      apply aDraw.tree tys_ok mixed (.one 0 (.one 1 (.one 2 (.one 3 (.one 5 (.one 6 (.one 8 (.one 9 (.one 10 (.two 4 (.two 7 (.two 11 (.one 12 (.one 13 (.one 14 (.one 15 (.one 16 (.one 17 (.one 18 (.one 19 (.one 20 (.one 21 .fin)))))))))) 17 (.one 11 (.one 12 (.one 13 (.one 14 (.one 15 (.one 16 (.one 18 (.one 19 (.one 20 (.one 21 .fin))))))))))) 17 (.one 7 (.one 11 (.one 12 (.one 13 (.one 14 (.one 15 (.one 16 (.one 18 (.one 19 (.one 20 (.one 21 .fin)))))))))))) 17 (.one 4 (.one 7 (.one 11 (.one 12 (.one 13 (.one 14 (.one 15 (.one 16 (.one 18 (.one 19 (.one 20 (.one 21 .fin)))))))))))))))))))))) [12, 13, 14, 15, 62, 63, 64, 65, 66, 67, 68, 69, 70, 71, 72, 73, 74, 75, 76, 77, 78] (by kernel_rfl)
      · conv => whnf
        refine And.intro ?_ ?_
        · conv => whnf
          refine ACalls.sub _ ?_ (Fn.closed (c0) rfl ?_)
          · repeat' (first | exact trivial | exact fun _ _ h => h | exact nil_sl _ _ | refine And.intro ?_ ?_ | refine ag_sub ?_)
          rintro _ rfl
          conv => whnf
          refine And.intro ?_ ?_
          · conv => whnf
            refine ACalls.sub _ ?_ (Fn.closed (c1) rfl ?_)
            · repeat' (first | exact trivial | exact fun _ _ h => h | exact nil_sl _ _ | refine And.intro ?_ ?_ | refine ag_sub ?_)
            rintro _ rfl
            conv => whnf
            refine And.intro ?_ ?_
            · conv => whnf
              refine Fn.closed (l) rfl ?_
              rintro _ rfl
              conv => whnf
              exact ⟨rfl, rfl⟩
            · conv => whnf
              refine Fn.closed (l) rfl ?_
              rintro _ rfl
              conv => whnf
              exact ⟨rfl, rfl⟩
          · conv => whnf
            refine ACalls.sub _ ?_ (Fn.closed (c1) rfl ?_)
            · repeat' (first | exact trivial | exact fun _ _ h => h | exact nil_sl _ _ | refine And.intro ?_ ?_ | refine ag_sub ?_)
            rintro _ rfl
            conv => whnf
            refine Fn.closed (l) rfl ?_
            rintro _ rfl
            conv => whnf
            exact ⟨rfl, rfl⟩
        · conv => whnf
          refine ACalls.sub _ ?_ (Fn.closed (c0) rfl ?_)
          · repeat' (first | exact trivial | exact fun _ _ h => h | exact nil_sl _ _ | refine And.intro ?_ ?_ | refine ag_sub ?_)
          rintro _ rfl
          conv => whnf
          refine ACalls.sub _ ?_ (Fn.closed (c1) rfl ?_)
          · repeat' (first | exact trivial | exact fun _ _ h => h | exact nil_sl _ _ | refine And.intro ?_ ?_ | refine ag_sub ?_)
          rintro _ rfl
          conv => whnf
          refine Fn.closed (l) rfl ?_
          rintro _ rfl
          conv => whnf
          exact ⟨rfl, rfl⟩
      conv => whnf
      refine Fn.closed (wakes17_fn) rfl ?_
      rintro _ rfl
      conv => whnf
      exact ⟨_, fun _ _ h => h, rfl⟩
  · have hB : isOne ⟨2, modU seq 1000000, modU epoch 1000000, 1, 2, imgZ⟩ a (modU seq 1000000) 1 2 g.sl = false := decide_eq_false fun h => hW h.2.2.2.2.2
    have y := is_v _ _ _ _ _ _ _ hB
    have l := look_is (g := g) (a := a) (x := ⟨0, cellB g ⟨2, modU seq 1000000, modU epoch 1000000, 1, 2, imgZ⟩ 0 0⟩) (y := ⟨0, cellB g ⟨2, modU seq 1000000, modU epoch 1000000, 1, 2, imgZ⟩ 1 0⟩) (slot := 0) (seq := modU seq 1000000) (at_ := 1) (of_ := 2) (left := g.sl) (q := (zeroC, [], 2)) (by omega) (by omega) (cellB_short k1 0 0) (cellB_short k1 1 0) t2 t3 hs (by
      unfold lookR
      rw [says_cell t2 k1 hL0, says_cell t2 k1 hL1]
      simp only [oneO, hB]
      rfl)
    refine ACalls.sub _ ?_ (Fn.closed (y) rfl ?_)
    · repeat' (first | exact trivial | exact fun _ _ h => h | exact nil_sl _ _ | refine And.intro ?_ ?_ | refine ag_sub ?_)
    rintro _ rfl
    conv => whnf
    repeat' (first | (refine boolI (fun _ => ?_) (fun _ => ?_) <;> conv => whnf) | (refine aSeq.go ?_; conv => whnf))
    all_goals cases hD : decide (IntKind.i64.wrap ((IntKind.u64.wrap seq).tmod 1000000) ≤ a.last)
    all_goals first | have hD' := of_decide_eq_false hD | have hD' := of_decide_eq_true hD
    all_goals first
      | (exfalso; clear hD; simp only [modU] at *; omega)
      | skip
    all_goals
      apply aDraw.tree tys_ok mixed (.one 0 (.one 1 (.one 2 (.one 3 (.one 5 (.one 6 (.one 8 (.one 9 (.one 10 (.two 4 (.two 7 (.two 11 (.one 12 (.one 13 (.one 14 (.one 15 (.one 16 (.one 17 (.one 18 (.one 19 (.one 20 (.one 21 .fin)))))))))) 17 (.one 11 (.one 12 (.one 13 (.one 14 (.one 15 (.one 16 (.one 18 (.one 19 (.one 20 (.one 21 .fin))))))))))) 17 (.one 7 (.one 11 (.one 12 (.one 13 (.one 14 (.one 15 (.one 16 (.one 18 (.one 19 (.one 20 (.one 21 .fin)))))))))))) 17 (.one 4 (.one 7 (.one 11 (.one 12 (.one 13 (.one 14 (.one 15 (.one 16 (.one 18 (.one 19 (.one 20 (.one 21 .fin)))))))))))))))))))))) [12, 13, 14, 15, 62, 63, 64, 65, 66, 67, 68, 69, 70, 71, 72, 73, 74, 75, 76, 77, 78] (by kernel_rfl)
      · conv => whnf
        refine And.intro ?_ ?_
        · conv => whnf
          refine ACalls.sub _ ?_ (Fn.closed (c0) rfl ?_)
          · repeat' (first | exact trivial | exact fun _ _ h => h | exact nil_sl _ _ | refine And.intro ?_ ?_ | refine ag_sub ?_)
          rintro _ rfl
          conv => whnf
          refine And.intro ?_ ?_
          · conv => whnf
            refine ACalls.sub _ ?_ (Fn.closed (c1) rfl ?_)
            · repeat' (first | exact trivial | exact fun _ _ h => h | exact nil_sl _ _ | refine And.intro ?_ ?_ | refine ag_sub ?_)
            rintro _ rfl
            conv => whnf
            refine And.intro ?_ ?_
            · conv => whnf
              refine Fn.closed (l) rfl ?_
              rintro _ rfl
              conv => whnf
              exact ⟨rfl, rfl⟩
            · conv => whnf
              refine Fn.closed (l) rfl ?_
              rintro _ rfl
              conv => whnf
              exact ⟨rfl, rfl⟩
          · conv => whnf
            refine ACalls.sub _ ?_ (Fn.closed (c1) rfl ?_)
            · repeat' (first | exact trivial | exact fun _ _ h => h | exact nil_sl _ _ | refine And.intro ?_ ?_ | refine ag_sub ?_)
            rintro _ rfl
            conv => whnf
            refine Fn.closed (l) rfl ?_
            rintro _ rfl
            conv => whnf
            exact ⟨rfl, rfl⟩
        · conv => whnf
          refine ACalls.sub _ ?_ (Fn.closed (c0) rfl ?_)
          · repeat' (first | exact trivial | exact fun _ _ h => h | exact nil_sl _ _ | refine And.intro ?_ ?_ | refine ag_sub ?_)
          rintro _ rfl
          conv => whnf
          refine ACalls.sub _ ?_ (Fn.closed (c1) rfl ?_)
          · repeat' (first | exact trivial | exact fun _ _ h => h | exact nil_sl _ _ | refine And.intro ?_ ?_ | refine ag_sub ?_)
          rintro _ rfl
          conv => whnf
          refine Fn.closed (l) rfl ?_
          rintro _ rfl
          conv => whnf
          exact ⟨rfl, rfl⟩
      conv => whnf
      refine Fn.closed (wakes17_fn) rfl ?_
      rintro _ rfl
      conv => whnf
      exact ⟨_, fun _ _ h => h, rfl⟩
end Go.Proofs.YteecmgonbdbhdaaDoor.A
end

/-
The law PairExact.
-/
section
namespace Go.Proofs.YteecmgonbdbhdaaDoor.A
open Go.RowKit

theorem row_sub {α : Type} {f : α → List AV} {d : α} {sz : Nat} {es : List (List AV)} {n : Nat} (l : List α) (hn : n = l.length) (he : es = l.map f) (c : Ctx) (u : Value) (h : Rd (.sl sz n fun i => es.getD i []) c u) : Rd (.sl sz l.length fun i => f (l.getD i d)) c u :=
  Rd.congr hn (fun i hi => by rw [he, map_getD (d := d) (by omega)]) h
theorem rec_same (r : Rc) (h : r.img.bytes.length ≤ 100000000000) : Fn Tryd.prog 19 [.ag (rcC r), .ag (rcC r)] fun x => x = .v (.bool true) := by
  have := rec_fn r r h
  rw [decide_eq_true rfl] at this
  exact this
theorem ints_same (l : List Int) (h : l.length ≤ 100000000000) : Fn Tryd.prog 24 [iA l, iA l] fun x => x = .v (.bool true) := by
  have := ints_fn l l h
  rw [decide_eq_true rfl] at this
  exact this
theorem saysR_none {g : Geo} {x : Gt} {copy slot : Int} (h : (okG g && okL g copy slot) = false) : saysR g x copy slot = none := by
  unfold saysR
  rw [h]
  rfl
theorem saysR_len {g : Geo} {x : Gt} {copy slot : Int} {r : Rc} (h : saysR g x copy slot = some r) : r.img.bytes.length ≤ x.bytes.length := by
  unfold saysR at h
  split at h
  · rename_i hc
    split at h
    · rename_i q hq
      split at h
      · cases h
        have h1 := (readR_some hq).2
        have h2 : (recB r).length = (secPay x.bytes).length := by rw [h1]
        have h3 : (secPay x.bytes).length ≤ x.bytes.length := by simp [secPay]; omega
        have hok := (readR_some hq).1
        have h4 := recB_len hok
        split at h4
        · omega
        · rename_i hk
          have : r.img.bytes.length = 0 := by
            unfold okR behOk at hok
            simp only [Bool.and_eq_true] at hok
            have hok := hok.2
            split at hok
            · simp only [noneB, Bool.and_eq_true, beq_iff_eq] at hok; omega
            · split at hok
              · simp only [noneB, Bool.and_eq_true, beq_iff_eq] at hok; omega
              · cases hok
          omega
      · cases h
    · cases h
  · cases h
theorem lookR_len {g : Geo} {a : An} {x y : Gt} {slot seq at_ of_ left : Int} {m : Nat} (hx : x.bytes.length ≤ m) (hy : y.bytes.length ≤ m) : (lookR g a x y slot seq at_ of_ left).1.img.bytes.length ≤ m ∧ (lookR g a x y slot seq at_ of_ left).2.1.length ≤ 1 := by
  have h1 : ((saysR g x 0 slot).getD zeroC).img.bytes.length ≤ m := by
    cases h : saysR g x 0 slot with
    | none => exact Nat.zero_le _
    | some r => exact Nat.le_trans (saysR_len h) hx
  have h2 : ((saysR g y 1 slot).getD zeroC).img.bytes.length ≤ m := by
    cases h : saysR g y 1 slot with
    | none => exact Nat.zero_le _
    | some r => exact Nat.le_trans (saysR_len h) hy
  unfold lookR lookT
  repeat' split
  all_goals first | exact ⟨h1, by simp⟩ | exact ⟨h2, by simp⟩ | exact ⟨Nat.zero_le _, by simp⟩
set_option maxRecDepth 100000 in
theorem exact17_fn (g : Geo) (a : An) (x y : Gt) (r : Rc) (slot seq at_ of_ left : Int) : Fn Tryd.prog 3 [.ag (geoC g), .ag (anC a), .ag (gotC x), .ag (gotC y), .ag (rcC r), .ag (arrC [slot, seq, at_, of_, left])] fun r => r = .v (.bool true) := by
  refine Fn.of tys_ok Tryd.func3 rfl rfl (Nat.le_of_ble_eq_true rfl) ?_
  conv => whnf
  refine aDraw.of tys_ok mixed [0, 1, 2, 3, 4, 5, 6, 7, 8, 9, 10, 11, 12, 13, 14] (by kernel_rfl) ?_
  conv => whnf
  repeat' (refine And.intro (by decide) ?_; conv => whnf)
  refine Fn.closed (heavyA_fn a) rfl ?_
  rintro _ rfl
  conv => whnf
  refine boolI (fun t1 => ?_) (fun t1 => ?_) <;> (repeat rw [Int.toNat_natCast] at t1) <;> conv => whnf
  · exact ⟨_, fun _ _ h => h, rfl⟩
  obtain ⟨hh, hl⟩ := heavyA_no t1
  refine ACalls.shut (heavyG_fn [x, y]).go ?_
  conv => whnf
  repeat' (refine And.intro (by first | rfl | omega | simp) ?_; conv => whnf)
  refine ACalls.sub _ ?_ (Fn.closed (heavyG_fn [x, y]) rfl ?_)
  · repeat' (first | exact trivial | exact fun _ _ h => h | exact nil_sl _ _ | exact row_sub [x, y] rfl rfl | refine And.intro ?_ ?_ | refine ag_sub ?_)
  rintro _ rfl
  conv => whnf
  refine boolI (fun t2 => ?_) (fun t2 => ?_) <;> (repeat rw [Int.toNat_natCast] at t2) <;> conv => whnf
  · exact ⟨_, fun _ _ h => h, rfl⟩
  obtain ⟨-, hb⟩ := heavyG_no t2
  have hx := hb x (by simp)
  have hy := hb y (by simp)
  refine boolI (fun t3 => ?_) (fun t3 => ?_) <;> (repeat rw [Int.toNat_natCast] at t3) <;> conv => whnf
  · exact ⟨_, fun _ _ h => h, rfl⟩
  have s1 := says_fn g x 0 slot (by omega)
  have s2 := look_fn g a x y slot seq at_ of_ left (by omega) (by omega) (by omega) (by omega)
  have s3 := is_fn r a seq at_ of_ left
  have s4 := rone_fn r a seq at_ of_ left
  have s5 := says_fn g x 2 slot (by omega)
  rw [saysR_none (copy := 2) (by rw [okL]; simp [inB])] at s5
  have s6 := rgeom_br g
  have z := rec_same zeroC (by decide)
  generalize isOne r a seq at_ of_ left = B at s3 s4
  cases hC : okG g && inB slot 0 (g.sl - 1) with
  | false =>
    rw [saysR_none (copy := 0) (by rw [okL, ← Bool.and_assoc, Bool.and_comm (okG g), Bool.and_assoc, hC, Bool.and_false])] at s1
    rw [show (okG g && anOk g a && inB slot 0 (g.sl - 1)) = false by rw [Bool.and_comm (okG g), Bool.and_assoc, hC, Bool.and_false]] at s2
    simp only [Bool.false_eq_true, if_false] at s2
    refine Fn.closed (s1) rfl ?_
    rintro _ rfl
    conv => whnf
    refine Fn.closed (s2) rfl ?_
    rintro _ rfl
    conv => whnf
    cases B
    all_goals
      refine aDraw.of tys_ok mixed [0, 1, 2, 3, 4, 5, 7, 8, 9, 10, 11, 12, 6, 13, 14] (by kernel_rfl) ?_
      conv => whnf
      refine Fn.closed (s3) rfl ?_
      rintro _ rfl
      conv => whnf
      refine Fn.closed (s4) rfl ?_
      rintro _ rfl
      conv => whnf
      refine Fn.closed (s5) rfl ?_
      rintro _ rfl
      conv => whnf
      refine Fn.closed (s6) rfl ?_
      rintro _ rfl
      conv => whnf
      have fin : okG g = true → 0 ≤ slot → slot < g.sl → False := fun q1 q2 q3 => by
        rw [q1, show inB slot 0 (g.sl - 1) = true from inB_iff.2 (by omega)] at hC
        cases hC
      refine boolI (fun t4 => ?_) (fun t4 => ?_) <;> (repeat rw [Int.toNat_natCast] at t4) <;> conv => whnf
      · refine ACalls.sub _ ?_ (Fn.closed (z) rfl ?_)
        · repeat' (first | exact trivial | exact fun _ _ h => h | exact nil_sl _ _ | refine And.intro ?_ ?_ | refine ag_sub ?_)
        rintro _ rfl
        conv => whnf
        refine ACalls.sub _ ?_ (Fn.closed (z) rfl ?_)
        · repeat' (first | exact trivial | exact fun _ _ h => h | exact nil_sl _ _ | refine And.intro ?_ ?_ | refine ag_sub ?_)
        rintro _ rfl
        conv => whnf
        refine Fn.closed (wakes17_fn) rfl ?_
        rintro _ rfl
        conv => whnf
        exact ⟨_, fun _ _ h => h, rfl⟩
      refine boolI (fun t5 => ?_) (fun t5 => ?_) <;> (repeat rw [Int.toNat_natCast] at t5) <;> conv => whnf
      · refine ACalls.sub _ ?_ (Fn.closed (z) rfl ?_)
        · repeat' (first | exact trivial | exact fun _ _ h => h | exact nil_sl _ _ | refine And.intro ?_ ?_ | refine ag_sub ?_)
        rintro _ rfl
        conv => whnf
        refine ACalls.sub _ ?_ (Fn.closed (z) rfl ?_)
        · repeat' (first | exact trivial | exact fun _ _ h => h | exact nil_sl _ _ | refine And.intro ?_ ?_ | refine ag_sub ?_)
        rintro _ rfl
        conv => whnf
        refine Fn.closed (wakes17_fn) rfl ?_
        rintro _ rfl
        conv => whnf
        exact ⟨_, fun _ _ h => h, rfl⟩
      refine boolI (fun t6 => ?_) (fun t6 => ?_) <;> (repeat rw [Int.toNat_natCast] at t6) <;> conv => whnf
      · refine ACalls.sub _ ?_ (Fn.closed (z) rfl ?_)
        · repeat' (first | exact trivial | exact fun _ _ h => h | exact nil_sl _ _ | refine And.intro ?_ ?_ | refine ag_sub ?_)
        rintro _ rfl
        conv => whnf
        refine ACalls.sub _ ?_ (Fn.closed (z) rfl ?_)
        · repeat' (first | exact trivial | exact fun _ _ h => h | exact nil_sl _ _ | refine And.intro ?_ ?_ | refine ag_sub ?_)
        rintro _ rfl
        conv => whnf
        refine Fn.closed (wakes17_fn) rfl ?_
        rintro _ rfl
        conv => whnf
        exact ⟨_, fun _ _ h => h, rfl⟩
      · exact (fin t4 t5 t6).elim
  | true =>
    simp only [Bool.and_eq_true] at hC
    obtain ⟨hg, hs⟩ := hC
    have hs2 := inB_iff.1 hs
    have hL : okL g 0 slot = true := by rw [okL, hs]; rfl
    have s7 := recSays_fn g x 0 slot (by omega) hg hL
    have s8 := ranchor_fn g a hg (by omega)
    have s9 := rlook_fn g a x y slot seq at_ of_ left hg hs (by omega) (by omega)
    have n1 := lookR_len (g := g) (a := a) (slot := slot) (seq := seq) (at_ := at_) (of_ := of_) (left := left) hx hy
    have n2 : ((saysR g x 0 slot).getD zeroC).img.bytes.length ≤ 300 := by
      cases h : saysR g x 0 slot with
      | none => exact Nat.zero_le _
      | some r => exact Nat.le_trans (saysR_len h) hx
    rw [hg] at s6
    rw [hg, hs, Bool.and_true, Bool.true_and] at s2
    generalize saysR g x 0 slot = P at s1 s7 n2
    generalize lookR g a x y slot seq at_ of_ left = Q at s2 s9 n1
    have z1 := rec_same (P.getD zeroC) (by omega)
    have z2 := rec_same Q.1 (by omega)
    have z3 := ints_same Q.2.1 (by omega)
    cases hA : anOk g a
    all_goals
      rw [hA] at s2 s8
      simp only [Bool.false_eq_true, if_false, if_true] at s2
      cases B
    all_goals
      cases hP : P.isSome
    all_goals
      rw [hP] at s1 s7
      refine Fn.closed (s1) rfl ?_
      rintro _ rfl
      conv => whnf
      refine Fn.closed (s2) rfl ?_
      rintro _ rfl
      conv => whnf
      refine aDraw.of tys_ok mixed [0, 1, 2, 3, 4, 5, 7, 8, 9, 10, 11, 12, 6, 13, 14] (by kernel_rfl) ?_
      conv => whnf
      refine Fn.closed (s3) rfl ?_
      rintro _ rfl
      conv => whnf
      refine Fn.closed (s4) rfl ?_
      rintro _ rfl
      conv => whnf
      refine Fn.closed (s5) rfl ?_
      rintro _ rfl
      conv => whnf
      refine Fn.closed (s6) rfl ?_
      rintro _ rfl
      conv => whnf
      refine boolI (fun t5 => ?_) (fun t5 => ?_) <;> (repeat rw [Int.toNat_natCast] at t5) <;> conv => whnf
      · exfalso; omega
      refine boolI (fun t6 => ?_) (fun t6 => ?_) <;> (repeat rw [Int.toNat_natCast] at t6) <;> conv => whnf
      · exfalso; omega
      refine Fn.closed (s7) rfl ?_
      rintro _ rfl
      conv => whnf
      refine Fn.closed (z1) rfl ?_
      rintro _ rfl
      conv => whnf
      refine Fn.closed (s8) rfl ?_
      rintro _ rfl
      conv => whnf
    · refine ACalls.sub _ ?_ (Fn.closed (z) rfl ?_)
      · repeat' (first | exact trivial | exact fun _ _ h => h | exact nil_sl _ _ | refine And.intro ?_ ?_ | refine ag_sub ?_)
      rintro _ rfl
      conv => whnf
      refine Fn.closed (wakes17_fn) rfl ?_
      rintro _ rfl
      conv => whnf
      exact ⟨_, fun _ _ h => h, rfl⟩
    · refine ACalls.sub _ ?_ (Fn.closed (z) rfl ?_)
      · repeat' (first | exact trivial | exact fun _ _ h => h | exact nil_sl _ _ | refine And.intro ?_ ?_ | refine ag_sub ?_)
      rintro _ rfl
      conv => whnf
      refine Fn.closed (wakes17_fn) rfl ?_
      rintro _ rfl
      conv => whnf
      exact ⟨_, fun _ _ h => h, rfl⟩
    · refine ACalls.sub _ ?_ (Fn.closed (z) rfl ?_)
      · repeat' (first | exact trivial | exact fun _ _ h => h | exact nil_sl _ _ | refine And.intro ?_ ?_ | refine ag_sub ?_)
      rintro _ rfl
      conv => whnf
      refine Fn.closed (wakes17_fn) rfl ?_
      rintro _ rfl
      conv => whnf
      exact ⟨_, fun _ _ h => h, rfl⟩
    · refine ACalls.sub _ ?_ (Fn.closed (z) rfl ?_)
      · repeat' (first | exact trivial | exact fun _ _ h => h | exact nil_sl _ _ | refine And.intro ?_ ?_ | refine ag_sub ?_)
      rintro _ rfl
      conv => whnf
      refine Fn.closed (wakes17_fn) rfl ?_
      rintro _ rfl
      conv => whnf
      exact ⟨_, fun _ _ h => h, rfl⟩
    · refine Fn.closed (s9) rfl ?_
      rintro _ rfl
      conv => whnf
      refine boolI (fun tq => ?_) (fun tq => ?_) <;> (repeat rw [Int.toNat_natCast] at tq) <;> conv => whnf
      · refine Fn.closed (z2) rfl ?_
        rintro _ rfl
        conv => whnf
        refine Fn.closed (z3) rfl ?_
        rintro _ rfl
        conv => whnf
        refine Fn.closed (wakes17_fn) rfl ?_
        rintro _ rfl
        conv => whnf
        exact ⟨_, fun _ _ h => h, rfl⟩
      · exact absurd rfl tq
    · refine Fn.closed (s9) rfl ?_
      rintro _ rfl
      conv => whnf
      refine boolI (fun tq => ?_) (fun tq => ?_) <;> (repeat rw [Int.toNat_natCast] at tq) <;> conv => whnf
      · refine Fn.closed (z2) rfl ?_
        rintro _ rfl
        conv => whnf
        refine Fn.closed (z3) rfl ?_
        rintro _ rfl
        conv => whnf
        refine Fn.closed (wakes17_fn) rfl ?_
        rintro _ rfl
        conv => whnf
        exact ⟨_, fun _ _ h => h, rfl⟩
      · exact absurd rfl tq
    · refine Fn.closed (s9) rfl ?_
      rintro _ rfl
      conv => whnf
      refine boolI (fun tq => ?_) (fun tq => ?_) <;> (repeat rw [Int.toNat_natCast] at tq) <;> conv => whnf
      · refine Fn.closed (z2) rfl ?_
        rintro _ rfl
        conv => whnf
        refine Fn.closed (z3) rfl ?_
        rintro _ rfl
        conv => whnf
        refine Fn.closed (wakes17_fn) rfl ?_
        rintro _ rfl
        conv => whnf
        exact ⟨_, fun _ _ h => h, rfl⟩
      · exact absurd rfl tq
    · refine Fn.closed (s9) rfl ?_
      rintro _ rfl
      conv => whnf
      refine boolI (fun tq => ?_) (fun tq => ?_) <;> (repeat rw [Int.toNat_natCast] at tq) <;> conv => whnf
      · refine Fn.closed (z2) rfl ?_
        rintro _ rfl
        conv => whnf
        refine Fn.closed (z3) rfl ?_
        rintro _ rfl
        conv => whnf
        refine Fn.closed (wakes17_fn) rfl ?_
        rintro _ rfl
        conv => whnf
        exact ⟨_, fun _ _ h => h, rfl⟩
      · exact absurd rfl tq
end Go.Proofs.YteecmgonbdbhdaaDoor.A
end

/-
Results that are the caller's own: rows that nobody else has.
-/
section
namespace Go.Proofs.YteecmgonbdbhdaaDoor.A
open Go.RowKit

def open0 (x : AV) (H R : List AB) (k : AV → List AB → List AB → Prop) : Prop :=
  match x with
  | .v u => k (.v u) H R
  | .sl sz n get => k (.sl sz n get) H R
  | .ow j n => match hget H j with
    | some (.row t sz es) => setK j .dead H fun H => snocK R (.row t sz es) 0 fun i R => k (.ow i n) H R
    | _ => False
  | _ => False
def openC : List AV → List AB → List AB → (List AV → List AB → List AB → Prop) → Prop
  | [], H, R, k => k [] H R
  | x :: l, H, R, k => open0 x H R fun x H R => openC l H R fun l H R => k (x :: l) H R
def open1 (x : AV) (H R : List AB) (k : AV → List AB → List AB → Prop) : Prop :=
  match x with
  | .ag cs => openC cs H R fun cs H R => k (.ag cs) H R
  | x => open0 x H R k
def openL : List AV → List AB → List AB → (List AV → List AB → List AB → Prop) → Prop
  | [], H, R, k => k [] H R
  | x :: l, H, R, k => open1 x H R fun x H R => openL l H R fun l H R => k (x :: l) H R
def openR (x : AV) (H : List AB) (k : AV → List AB → Prop) : Prop :=
  match x with
  | .tp l => openL l H [] fun l _ R => k (.tp l) R
  | x => open1 x H [] fun x _ R => k x R

section
variable {w0 : Fl} {M0 : Ms} {c cr : Ctx} {H R : List AB}
theorem HS.kill (h : HS w0 M0 c H) (k : Nat) : HS w0 M0 c (H.set k .dead) := by
  have hget : ∀ j y, (H.set k .dead)[j]? = some y → y.live = true → j ≠ k ∧ H[j]? = some y := by
    intro j y hj hl
    by_cases hjk : j = k
    · subst hjk
      by_cases hlt : j < H.length
      · rw [List.getElem?_set_self hlt] at hj
        cases hj; cases hl
      · rw [List.getElem?_eq_none (by simp; omega)] at hj; cases hj
    · rw [List.getElem?_set_ne (Ne.symm hjk)] at hj
      exact ⟨hjk, hj⟩
  refine ⟨h.low, h.base, by simp [h.dom], h.foreign, h.lt, fun j y hj => ?_, fun j y g hj hl ho => ?_, fun i j y z g hi hj hly hlz hoi hoj => ?_⟩
  · cases hy : y.live with
    | false => cases y <;> simp [AB.live] at hy; trivial
    | true => exact h.blk j y (hget j y hj hy).2
  · exact h.own j y g (hget j y hj hl).2 hl ho
  · exact h.dis i j y z g (hget i y hi hly).2 (hget j z hj hlz).2 hly hlz hoi hoj

/-- How far the handing over has come. -/
structure OpenSt (w0 : Fl) (M0 : Ms) (c : Ctx) (H : List AB) (cr : Ctx) (R : List AB) : Prop where
  hs : HS w0 M0 c H
  hr : HS w0 M0 cr R
  w : cr.w = c.w
  M : cr.M = c.M
  dis : ∀ i k x y g, R[i]? = some x → H[k]? = some y → x.live = true → y.live = true → oB (cr.rho i) = some g → oB (c.rho k) = some g → False
  rows : ∀ x ∈ R, ∃ t sz es, x = .row t sz es
theorem OpenSt.ext (h : OpenSt w0 M0 c H cr R) : Ext c.closed cr :=
  ⟨by simp [Ctx.closed, h.w], by simp [Ctx.closed, h.w], by simp [Ctx.closed, h.w], by simp [Ctx.closed, h.w], fun b _ hm => ⟨by rw [h.M]; exact hm, by simp [Ctx.closed, h.w]⟩, Nat.zero_le _, fun k hk => absurd hk (Nat.not_lt_zero k), fun k hk => absurd hk (Nat.not_lt_zero k), fun k _ hk => absurd hk (Nat.not_lt_zero k)⟩
theorem OpenSt.take (h : OpenSt w0 M0 c H cr R) {j : Nat} {t : TypeId} {sz : Nat} {es : List (List AV)} (hj : H[j]? = some (.row t sz es)) :
    ∃ cr', OpenSt w0 M0 c (H.set j .dead) cr' (R ++ [.row t sz es]) ∧ Ext cr cr' ∧ ∀ n u, Rd (.ow j n) c u → Rd (.ow R.length n) cr' u := by
  let cr' : Ctx := { cr with dom := cr.dom + 1, rho := fun k => if k = cr.dom then c.rho j else cr.rho k, len := fun k => if k = cr.dom then c.len j else cr.len k }
  have hrho : ∀ k, k < cr.dom → cr'.rho k = cr.rho k := fun k hk => by simp only [cr']; rw [if_neg (by omega)]
  have hlen : ∀ k, k < cr.dom → cr'.len k = cr.len k := fun k hk => by simp only [cr']; rw [if_neg (by omega)]
  have hrd : cr'.rho cr.dom = c.rho j := by simp [cr']
  have hrl : cr'.len cr.dom = c.len j := by simp [cr']
  have e : Ext cr cr' := ⟨rfl, rfl, rfl, Nat.le_refl _, fun _ _ hm => ⟨hm, rfl⟩, Nat.le_succ _, fun k hk => by rw [hlen k hk]; exact Nat.le_refl _, fun k hk _ => hrho k hk, fun k g hk hg => by rw [hrho k hk]; exact hg⟩
  have hget : ∀ k y, (R ++ [AB.row t sz es])[k]? = some y → (k < cr.dom ∧ R[k]? = some y) ∨ (k = cr.dom ∧ y = .row t sz es) := by
    intro k y hk
    rw [h.hr.dom]
    rcases Nat.lt_trichotomy k R.length with hlt | rfl | hgt
    · rw [List.getElem?_append_left hlt] at hk; exact .inl ⟨hlt, hk⟩
    · simp at hk; exact .inr ⟨rfl, hk.symm⟩
    · rw [List.getElem?_eq_none (by simp; omega)] at hk; cases hk
  have hset : ∀ k y, (H.set j .dead)[k]? = some y → y.live = true → k ≠ j ∧ H[k]? = some y := by
    intro k y hk hl
    by_cases hjk : k = j
    · subst hjk
      rw [List.getElem?_set_self (List.getElem?_eq_some_iff.1 hj).1] at hk
      cases hk; cases hl
    · rw [List.getElem?_set_ne (Ne.symm hjk)] at hk
      exact ⟨hjk, hk⟩
  have hcl : Ext c.closed cr'.closed := ⟨by simp [Ctx.closed, cr', h.w], by simp [Ctx.closed, cr', h.w], by simp [Ctx.closed, cr', h.w], by simp [Ctx.closed, cr', h.w], fun b _ hm => ⟨by simp only [Ctx.closed, cr']; rw [h.M]; exact hm, by simp [Ctx.closed, cr', h.w]⟩, Nat.zero_le _, fun k hk => absurd hk (Nat.not_lt_zero k), fun k hk => absurd hk (Nat.not_lt_zero k), fun k _ hk => absurd hk (Nat.not_lt_zero k)⟩
  refine ⟨cr', ⟨h.hs.kill j, ⟨h.hr.low, h.hr.base, by simp [cr', h.hr.dom], h.hr.foreign, h.hr.lt, fun k y hk => ?_, fun k y g hk hl ho => ?_, fun i k y z g hi hk hly hlz hoi hok => ?_⟩, h.w, h.M, fun i k x y g hi hk hlx hly hoi hok => ?_, fun x hx => ?_⟩, e, fun n u hu => ?_⟩
  · rcases hget k y hk with ⟨hlt, hk'⟩ | ⟨rfl, rfl⟩
    · exact BlkOk.ext e rfl hlt (hlen k hlt) (fun _ _ _ => rfl) (h.hr.blk k y hk')
    · obtain ⟨h1, h2, h3, xs, h4, h5, h6⟩ := h.hs.blk j _ hj
      refine ⟨by rw [hrl]; exact h1, h2, h3, xs, ?_, RdL.ext _ hcl h5, h6⟩
      rw [hrd, show cr'.w = c.w from h.w, show cr'.base = c.base from h.hr.base.trans h.hs.base.symm]
      exact h4
  · rcases hget k y hk with ⟨hlt, hk'⟩ | ⟨rfl, rfl⟩
    · rw [hrho k hlt] at ho
      exact h.hr.own k y g hk' hl ho
    · rw [hrd] at ho
      have := h.hs.own j _ g hj rfl ho
      exact ⟨by show cr.M g; rw [h.M]; exact this.1, this.2⟩
  · rcases hget i y hi with ⟨hlt, hi'⟩ | ⟨rfl, rfl⟩ <;> rcases hget k z hk with ⟨hlt2, hk'⟩ | ⟨rfl, rfl⟩
    · rw [hrho i hlt] at hoi
      rw [hrho k hlt2] at hok
      exact h.hr.dis i k y z g hi' hk' hly hlz hoi hok
    · rw [hrho i hlt] at hoi
      rw [hrd] at hok
      exact (h.dis i j y _ g hi' hj hly rfl hoi hok).elim
    · rw [hrd] at hoi
      rw [hrho k hlt2] at hok
      exact (h.dis k j z _ g hk' hj hlz rfl hok hoi).elim
    · rfl
  · obtain ⟨hkj, hk'⟩ := hset k y hk hly
    rcases hget i x hi with ⟨hlt, hi'⟩ | ⟨rfl, rfl⟩
    · rw [hrho i hlt] at hoi
      exact h.dis i k x y g hi' hk' hlx hly hoi hok
    · rw [hrd] at hoi
      exact hkj (h.hs.dis k j y _ g hk' hj hly rfl hok hoi)
  · rcases List.mem_append.1 hx with hx | hx
    · exact h.rows x hx
    · exact ⟨t, sz, es, by simpa using hx⟩
  · simp only [Rd] at hu ⊢
    obtain ⟨_, q2, q3, q4⟩ := hu
    rw [← h.hr.dom]
    exact ⟨Nat.lt_succ_self _, by rw [hrl]; exact q2, q3, by rw [hrl, hrd]; exact q4⟩
theorem open0_sound (h : OpenSt w0 M0 c H cr R) {x : AV} {u : Value} (hr : Rd x c u) {k : AV → List AB → List AB → Prop} (hk : open0 x H R k) :
    ∃ x' H' cr' R', k x' H' R' ∧ OpenSt w0 M0 c H' cr' R' ∧ Ext cr cr' ∧ Rd x' cr' u := by
  unfold open0 at hk
  split at hk
  · exact ⟨_, H, cr, R, hk, h, Ext.refl _, by simpa [Rd] using hr⟩
  · refine ⟨_, H, cr, R, hk, h, Ext.refl _, Rd.ext _ h.ext ?_⟩
    simp only [Rd] at hr ⊢
    exact hr
  · rename_i j n
    rw [hget_eq] at hk
    split at hk
    · rename_i t sz es hj
      have hk := snocK_iff (setK_iff hk)
      rw [Nat.zero_add] at hk
      obtain ⟨cr', q1, q2, q3⟩ := h.take hj
      exact ⟨_, _, cr', _, hk, q1, q2, q3 n u hr⟩
    · exact hk.elim
  · exact hk.elim
theorem openC_sound : ∀ {l : List AV} {H R : List AB} {cr : Ctx} (_ : OpenSt w0 M0 c H cr R) {us : List Value} (_ : RdL l c us) {k : List AV → List AB → List AB → Prop} (_ : openC l H R k),
    ∃ l' H' cr' R', k l' H' R' ∧ OpenSt w0 M0 c H' cr' R' ∧ Ext cr cr' ∧ RdL l' cr' us
  | [], H, R, cr, h, us, hr, k, hk => ⟨[], H, cr, R, hk, h, Ext.refl _, by simp only [RdL] at hr ⊢; exact hr⟩
  | x :: l, H, R, cr, h, us, hr, k, hk => by
    simp only [RdL] at hr
    obtain ⟨u, us, rfl, h1, h2⟩ := hr
    simp only [openC] at hk
    obtain ⟨x', H1, c1, R1, q1, q2, q3, q4⟩ := open0_sound h h1 hk
    obtain ⟨l', H2, c2, R2, p1, p2, p3, p4⟩ := openC_sound q2 h2 q1
    exact ⟨_, H2, c2, R2, p1, p2, q3.trans p3, by simp only [RdL]; exact ⟨u, us, rfl, Rd.ext _ p3 q4, p4⟩⟩
theorem open1_sound (h : OpenSt w0 M0 c H cr R) {x : AV} {u : Value} (hr : Rd x c u) {k : AV → List AB → List AB → Prop} (hk : open1 x H R k) :
    ∃ x' H' cr' R', k x' H' R' ∧ OpenSt w0 M0 c H' cr' R' ∧ Ext cr cr' ∧ Rd x' cr' u := by
  unfold open1 at hk
  split at hk
  · simp only [Rd] at hr
    obtain ⟨xs, rfl, hx⟩ := hr
    obtain ⟨l', H2, c2, R2, p1, p2, p3, p4⟩ := openC_sound h hx hk
    exact ⟨_, H2, c2, R2, p1, p2, p3, by simp only [Rd]; exact ⟨xs, rfl, p4⟩⟩
  · exact open0_sound h hr hk
theorem openL_sound : ∀ {l : List AV} {H R : List AB} {cr : Ctx} (_ : OpenSt w0 M0 c H cr R) {us : List Value} (_ : RdL l c us) {k : List AV → List AB → List AB → Prop} (_ : openL l H R k),
    ∃ l' H' cr' R', k l' H' R' ∧ OpenSt w0 M0 c H' cr' R' ∧ Ext cr cr' ∧ RdL l' cr' us
  | [], H, R, cr, h, us, hr, k, hk => ⟨[], H, cr, R, hk, h, Ext.refl _, by simp only [RdL] at hr ⊢; exact hr⟩
  | x :: l, H, R, cr, h, us, hr, k, hk => by
    simp only [RdL] at hr
    obtain ⟨u, us, rfl, h1, h2⟩ := hr
    simp only [openL] at hk
    obtain ⟨x', H1, c1, R1, q1, q2, q3, q4⟩ := open1_sound h h1 hk
    obtain ⟨l', H2, c2, R2, p1, p2, p3, p4⟩ := openL_sound q2 h2 q1
    exact ⟨_, H2, c2, R2, p1, p2, q3.trans p3, by simp only [RdL]; exact ⟨u, us, rfl, Rd.ext _ p3 q4, p4⟩⟩
/-- Nothing is handed over yet. -/
def ctxR (c : Ctx) : Ctx := { c with dom := 0 }
theorem OpenSt.begin (h : HS w0 M0 c H) : OpenSt w0 M0 c H (ctxR c) [] :=
  ⟨h, ⟨h.low, h.base, rfl, h.foreign, h.lt, by simp, by simp, by simp⟩, rfl, rfl, by simp, by simp⟩
theorem openR_sound (h : HS w0 M0 c H) {x : AV} {u : Value} (hr : Rd x c u) {k : AV → List AB → Prop} (hk : openR x H k) :
    ∃ x' cr R, k x' R ∧ cr.w = c.w ∧ HS w0 M0 cr R ∧ Rd x' cr u ∧ ∀ y ∈ R, ∃ t sz es, y = .row t sz es := by
  unfold openR at hk
  split at hk
  · simp only [Rd] at hr
    obtain ⟨xs, rfl, hx⟩ := hr
    obtain ⟨l', H2, c2, R2, p1, p2, p3, p4⟩ := openL_sound (OpenSt.begin h) hx hk
    exact ⟨_, c2, R2, p1, p2.w, p2.hr, by simp only [Rd]; exact ⟨xs, rfl, p4⟩, p2.rows⟩
  · obtain ⟨x', H2, c2, R2, p1, p2, p3, p4⟩ := open1_sound (OpenSt.begin h) hr hk
    exact ⟨_, c2, R2, p1, p2.w, p2.hr, p4, p2.rows⟩
end

/-- A function that writes nothing of its caller's and hands over rows. -/
structure FnO (P : Program) (f : FuncId) (args : List AV) (K : AV → List AB → Prop) : Prop where
  go : IsGo P f
  calls : ∀ (c0 : Ctx) (us : List Value) (hg : globOk c0.w), c0.dom = 0 → (∀ b, c0.M b → b < c0.w.heap.size) → RdL args c0 us →
    Calls P f us.toArray c0.w fun e w' => ∃ v r c' R, e = .returned v ∧ K r R ∧ c'.w = w' ∧ HS (Fl.all c0.w hg) c0.M c' R ∧ Rd r c' v ∧ ∀ y ∈ R, ∃ t sz es, y = .row t sz es
theorem FnO.mono {P : Program} {f : FuncId} {args : List AV} {K K' : AV → List AB → Prop} (h : FnO P f args K) (hk : ∀ r R, K r R → K' r R) : FnO P f args K' :=
  ⟨h.1, fun c0 us hg h1 h2 h3 => (h.2 c0 us hg h1 h2 h3).mono fun _ _ ⟨v, r, c', R, h4, h5, h6⟩ => ⟨v, r, c', R, h4, hk _ _ h5, h6⟩⟩
def finO (T : Tys) (rs : List ResultVar) (K : AV → List AB → Prop) : QA := fun ex fr H => match ex with
  | .exit _ => False
  | _ => retK T rs fr H fun x => openR x H K
theorem FnO.of {P : Program} {T : Tys} (hT : TOk P T) {f : FuncId} {fn : Func} {body : Code} {args : List AV} {K : AV → List AB → Prop} (hf : P.funcs[f]? = some fn) (hb : fn.body = some body) (hname : (fn.name == "runtime.NumGoroutine") = false) (hn : args.length ≤ fn.ntmps)
    (h : aCode P T fn.ntmps 0 body (finO T fn.results.toList K) (frOf 0 args) []) : FnO P f args K := by
  refine ⟨⟨fn, hf, by rw [hb]; rfl, hname⟩, fun c0 us hg hd hM hr => ?_⟩
  refine calls_of_wp hf hb ?_
  let ce : Ctx := { c0 with base := 0 }
  have hce : Ext c0 ce := ⟨rfl, rfl, rfl, Nat.le_refl _, fun _ _ h => ⟨h, rfl⟩, Nat.le_refl _, fun _ _ => Nat.le_refl _, fun _ _ _ => rfl, fun _ _ _ h => h⟩
  have hHS : HS (Fl.all c0.w hg) c0.M ce [] := ⟨LowF.refl _ hg, rfl, hd, fun _ _ => Iff.rfl, hM, by simp, by simp, by simp⟩
  have hlen := hr.length
  have hFR : FR ce fn.ntmps (frOf 0 args) { tmps := us.toArray ++ Array.replicate (fn.ntmps - us.toArray.size) undef, defers := [] } := by
    refine ⟨by simp; omega, rfl, fun i => ?_⟩
    have := frOf_rd (c := ce) (m := fn.ntmps - us.length) (l := args) (i := 0) (pre := []) rfl (RdL.ext _ hce hr) i
    rw [Array.getD_eq_getD_getElem?]
    have e : (us.toArray ++ Array.replicate (fn.ntmps - us.toArray.size) undef)[i]? = ([] ++ us ++ List.replicate (fn.ntmps - us.length) undef)[i]? := by
      have : (us.toArray ++ Array.replicate (fn.ntmps - us.toArray.size) undef) = ([] ++ us ++ List.replicate (fn.ntmps - us.length) undef).toArray := Array.ext' (by simp)
      rw [this]; simp only [List.getElem?_toArray]
    rw [e]
    exact this
  refine aCode_sound (w0 := Fl.all c0.w hg) (M0 := c0.M) (ce := ce) hT hd body _ _ ce _ [] _ ?_ hHS hFR (Ext.refl _) h
  have fin : ∀ a w, Lift (Fl.all c0.w hg) c0.M ce fn.ntmps (fun fr H => retK T fn.results.toList fr H fun x => openR x H K) a w → a.defers = [] ∧ ∃ v, (results fn a.tmps).run P w = .ok v w ∧ ∃ v' r c' R, Ending.returned v = .returned v' ∧ K r R ∧ c'.w = w ∧ HS (Fl.all c0.w hg) c0.M c' R ∧ Rd r c' v' ∧ ∀ y ∈ R, ∃ t sz es, y = .row t sz es := by
    rintro a w ⟨c, fr, H, rfl, h1, h2, h3, h4⟩
    obtain ⟨x, v, q1, q2, q3⟩ := retK_sound hT h2 h3 h1
    obtain ⟨r, cr, R, p1, p2, p3, p4, p5⟩ := openR_sound h2 q2 q1
    exact ⟨h3.defers, v, q3, v, r, cr, R, rfl, p1, p2, p3, p4, p5⟩
  intro e a w hl
  cases e with
  | normal => exact fin a w hl
  | ret => exact fin a w hl
  | exit id =>
    obtain ⟨c, fr, H, _, h1, _⟩ := hl
    exact h1.elim
  | _ => exact hl.elim

mutual
def AV.shift (d : Nat) : AV → AV
  | .ow k n => .ow (k + d) n
  | .bp k o => .bp (k + d) o
  | .ep k n i sz off => .ep (k + d) n i sz off
  | .ag l => .ag (AV.shiftL d l)
  | .tp l => .tp (AV.shiftL d l)
  | .fn f l => .fn f (AV.shiftL d l)
  | .top => .top
  | .v x => .v x
  | .sl sz n get => .sl sz n get
  | .rp cs => .rp cs
def AV.shiftL (d : Nat) : List AV → List AV
  | [] => []
  | x :: l => x.shift d :: AV.shiftL d l
end
/-- Two contexts beside each other. -/
def Ctx.beside (c c' : Ctx) : Ctx := { w := c'.w, base := c.base, M := c'.M, dom := c.dom + c'.dom, rho := fun k => if k < c.dom then c.rho k else c'.rho (k - c.dom), len := fun k => if k < c.dom then c.len k else c'.len (k - c.dom) }
theorem Ext.closedBeside (c c' : Ctx) : Ext c'.closed (c.beside c').closed := ⟨rfl, rfl, rfl, Nat.le_refl _, fun _ _ h => ⟨h, rfl⟩, Nat.zero_le _, fun k hk => absurd hk (Nat.not_lt_zero k), fun k hk => absurd hk (Nat.not_lt_zero k), fun k _ hk => absurd hk (Nat.not_lt_zero k)⟩
mutual
theorem Rd.shift : ∀ (x : AV) {c c' : Ctx} {u : Value}, Rd x c' u → Rd (x.shift c.dom) (c.beside c') u
  | .top, _, _, _, _ => by simp [AV.shift, Rd]
  | .v _, _, _, _, h => by simpa [AV.shift, Rd] using h
  | .sl sz n get, c, c', u, h => by
    simp only [AV.shift, Rd] at h ⊢
    obtain ⟨a, k, rfl, h1, h2, h3⟩ := h
    refine ⟨a, k, rfl, h1, h2, h3.imp id ?_⟩
    rintro ⟨b, off, rfl, hm, hb, hc⟩
    exact ⟨b, off, rfl, hm, hb, fun i hi => ⟨(hc i hi).1, RdAt.ext (get i) (Ext.closedBeside c c') hb hm (hc i hi).2⟩⟩
  | .rp cs, c, c', u, h => by
    simp only [AV.shift, Rd] at h ⊢
    obtain ⟨b, off, rfl, hm, hb, hc⟩ := h
    exact ⟨b, off, rfl, hm, hb, RdAt.ext cs (Ext.closedBeside c c') hb hm hc⟩
  | .bp k off, c, c', u, h => by
    simp only [AV.shift, Rd] at h ⊢
    obtain ⟨h1, g, h2, h3⟩ := h
    refine ⟨by simp only [Ctx.beside]; omega, g, ?_, h3⟩
    simp only [Ctx.beside]
    rw [if_neg (by omega), Nat.add_sub_cancel]
    exact h2
  | .ow k n, c, c', u, h => by
    simp only [AV.shift, Rd] at h ⊢
    obtain ⟨h1, h2, h3, h4⟩ := h
    have e1 : (c.beside c').len (k + c.dom) = c'.len k := by simp only [Ctx.beside]; rw [if_neg (by omega), Nat.add_sub_cancel]
    have e2 : (c.beside c').rho (k + c.dom) = c'.rho k := by simp only [Ctx.beside]; rw [if_neg (by omega), Nat.add_sub_cancel]
    rw [e1, e2]
    exact ⟨by simp only [Ctx.beside]; omega, h2, h3, h4⟩
  | .ep k n i sz off, c, c', u, h => by
    simp only [AV.shift, Rd] at h ⊢
    obtain ⟨h1, h2, h3⟩ := h
    have e1 : (c.beside c').len (k + c.dom) = c'.len k := by simp only [Ctx.beside]; rw [if_neg (by omega), Nat.add_sub_cancel]
    have e2 : (c.beside c').rho (k + c.dom) = c'.rho k := by simp only [Ctx.beside]; rw [if_neg (by omega), Nat.add_sub_cancel]
    rw [e1, e2]
    exact ⟨by simp only [Ctx.beside]; omega, h2, h3⟩
  | .ag l, c, c', u, h => by
    simp only [AV.shift, Rd] at h ⊢
    obtain ⟨xs, rfl, h1⟩ := h
    exact ⟨xs, rfl, RdL.shift l h1⟩
  | .tp l, c, c', u, h => by
    simp only [AV.shift, Rd] at h ⊢
    obtain ⟨xs, rfl, h1⟩ := h
    exact ⟨xs, rfl, RdL.shift l h1⟩
  | .fn f l, c, c', u, h => by
    simp only [AV.shift, Rd] at h ⊢
    obtain ⟨xs, rfl, h1⟩ := h
    exact ⟨xs, rfl, RdL.shift l h1⟩
theorem RdL.shift : ∀ (l : List AV) {c c' : Ctx} {us : List Value}, RdL l c' us → RdL (AV.shiftL c.dom l) (c.beside c') us
  | [], _, _, _, h => by simp only [AV.shiftL, RdL] at h ⊢; exact h
  | x :: l, c, c', us, h => by
    simp only [AV.shiftL, RdL] at h ⊢
    obtain ⟨u, us, rfl, h1, h2⟩ := h
    exact ⟨u, us, rfl, Rd.shift x h1, RdL.shift l h2⟩
end
theorem HS.beside {w0 : Fl} {M0 : Ms} {c c' : Ctx} {H R : List AB} (h : HS w0 M0 c H) {hg : globOk c.w} (k : HS (Fl.all c.w hg) c.M c' R) (hR : ∀ y ∈ R, ∃ t sz es, y = .row t sz es) :
    HS w0 M0 (c.beside c') (H ++ R) ∧ Ext c (c.beside c') := by
  have hsz := h.low.size
  have e : Ext c (c.beside c') := by
    refine ⟨k.low.os, k.low.tape, k.low.output, k.low.size, fun b hb hm => ⟨fun hm' => hm ((k.foreign b hb).1 hm'), k.low.block b hb⟩, Nat.le_add_right _ _, fun i hi => ?_, fun i hi _ => ?_, fun i g hi hg => ?_⟩
    · simp only [Ctx.beside]; rw [if_pos hi]; exact Nat.le_refl _
    · simp only [Ctx.beside]; rw [if_pos hi]
    · simp only [Ctx.beside]; rw [if_pos hi]; exact hg
  have hrho : ∀ i, i < c.dom → (c.beside c').rho i = c.rho i := fun i hi => by simp only [Ctx.beside]; rw [if_pos hi]
  have hrho2 : ∀ i, ¬ i < c.dom → (c.beside c').rho i = c'.rho (i - c.dom) := fun i hi => by simp only [Ctx.beside]; rw [if_neg hi]
  have hget : ∀ i y, (H ++ R)[i]? = some y → (i < c.dom ∧ H[i]? = some y) ∨ (¬ i < c.dom ∧ R[i - c.dom]? = some y) := by
    intro i y hi
    rw [h.dom]
    by_cases hlt : i < H.length
    · rw [List.getElem?_append_left hlt] at hi; exact .inl ⟨hlt, hi⟩
    · rw [List.getElem?_append_right (by omega)] at hi; exact .inr ⟨hlt, hi⟩
  refine ⟨⟨h.low.trans k.low.below, h.base, by simp [Ctx.beside, h.dom, k.dom], fun b hb => ?_, k.lt, fun i y hi => ?_, fun i y g hi hl ho => ?_, fun i j y z g hi hj hly hlz hoi hoj => ?_⟩, e⟩
  · exact (k.foreign b (Nat.lt_of_lt_of_le (w0.lt b hb) hsz)).trans (h.foreign b hb)
  · rcases hget i y hi with ⟨hlt, hi'⟩ | ⟨hge, hi'⟩
    · exact BlkOk.ext e rfl hlt (by simp only [Ctx.beside]; rw [if_pos hlt]) (fun g hl ho => k.low.block g (h.sub hi' hl ho)) (h.blk i y hi')
    · obtain ⟨t, sz, es, rfl⟩ := hR y (List.mem_of_getElem? hi')
      obtain ⟨h1, h2, h3, xs, h4, h5, h6⟩ := k.blk _ _ hi'
      refine ⟨by simp only [Ctx.beside]; rw [if_neg hge]; exact h1, h2, h3, xs, ?_, RdL.ext _ (Ext.closedBeside c c') h5, h6⟩
      rw [hrho2 i hge]
      refine ⟨h4.1, h4.2.imp id ?_⟩
      rintro ⟨g, cap, cur, q1, q2, q3⟩
      refine ⟨g, cap, cur, q1, ?_, q3⟩
      show c.base ≤ g
      rw [h.base]; exact Nat.zero_le _
  · rcases hget i y hi with ⟨hlt, hi'⟩ | ⟨hge, hi'⟩
    · rw [hrho i hlt] at ho
      have := h.own i y g hi' hl ho
      exact ⟨(k.foreign g (h.lt g this.1)).2 this.1, this.2⟩
    · rw [hrho2 i hge] at ho
      have := k.own _ y g hi' hl ho
      exact ⟨this.1, fun ho => this.2 (Nat.lt_of_lt_of_le (w0.lt g ho) hsz)⟩
  · rcases hget i y hi with ⟨hlt, hi'⟩ | ⟨hge, hi'⟩ <;> rcases hget j z hj with ⟨hlt2, hj'⟩ | ⟨hge2, hj'⟩
    · rw [hrho i hlt] at hoi
      rw [hrho j hlt2] at hoj
      exact h.dis i j y z g hi' hj' hly hlz hoi hoj
    · rw [hrho i hlt] at hoi
      rw [hrho2 j hge2] at hoj
      have h1 := h.sub hi' hly hoi
      exact ((k.own _ z g hj' hlz hoj).2 h1).elim
    · rw [hrho2 i hge] at hoi
      rw [hrho j hlt2] at hoj
      have h1 := h.sub hj' hlz hoj
      exact ((k.own _ y g hi' hly hoi).2 h1).elim
    · rw [hrho2 i hge] at hoi
      rw [hrho2 j hge2] at hoj
      have := k.dis _ _ y z g hi' hj' hly hlz hoi hoj
      omega
def appK : List AB → List AB → Nat → (Nat → List AB → Prop) → Prop
  | [], R, n, k => k n R
  | y :: r, R, n, k => appK r R (n + 1) fun m l => k m (y :: l)
theorem appK_iff : ∀ {H R : List AB} {n : Nat} {k : Nat → List AB → Prop}, appK H R n k → k (n + H.length) (H ++ R)
  | [], _, _, _, h => h
  | y :: r, R, n, k, h => by
    simp only [appK] at h
    have := appK_iff h
    rw [List.length_cons, show n + (r.length + 1) = n + 1 + r.length by omega]
    exact this
theorem FnO.call {P : Program} {f : FuncId} {args : List AV} {H : List AB} {K : AV → List AB → Prop} {q : Bool} {k : AV → List AB → Prop} (h : FnO P f args K) (hc : AV.ltL args 0 = true) (hk : ∀ r R, K r R → appK H R 0 fun d H => forceK (r.shift d) fun r => k r H) : ACalls P q f args H k := by
  refine ⟨h.go, fun w0 M0 c us hs0 hr => ?_⟩
  have hcut : Cut c c.closed := ⟨Ext.refl _, fun k hk => absurd hk (Nat.not_lt_zero k)⟩
  refine (h.calls c.closed us hs0.glob rfl hs0.lt (RdL.cut args hcut hc hr)).mono ?_
  rintro e w' ⟨v, r, c', R, rfl, q1, rfl, q2, q3, q4⟩
  obtain ⟨p1, p2⟩ := hs0.beside (c' := c') q2 q4
  have h1 := forceK_iff (appK_iff (hk r R q1))
  rw [Nat.zero_add, ← hs0.dom] at h1
  exact ⟨v, c.beside c', _, _, rfl, rfl, h1, p1, p2, Rd.shift r q3, fun _ => q2.low.below.old⟩
/-- What is handed over may be taken for reading only. -/
theorem FnO.fn1 {P : Program} {f : FuncId} {args : List AV} {t : TypeId} {sz n : Nat} {es : List (List AV)} (h : FnO P f args fun r R => r = .ow 0 n ∧ R = [.row t sz es] ∧ n = es.length) : Fn P f args fun r => r = .sl sz n fun i => es.getD i [] := by
  refine ⟨h.go, fun c0 us hd hM hg hr => (h.calls c0 us hg hd hM hr).mono ?_⟩
  rintro e w' ⟨v, r, c', R, rfl, ⟨rfl, rfl, rfl⟩, rfl, q2, q3, q4⟩
  obtain ⟨c2, e1, e2, e3, e4⟩ := q2.freeze (k := 0) rfl
  refine ⟨v, _, rfl, rfl, q2.low.below, ?_⟩
  have hE : Ext c2.closed { c0 with w := c'.w } := by
    refine ⟨by simp [Ctx.closed, e1], by simp [Ctx.closed, e1], by simp [Ctx.closed, e1], by simp [Ctx.closed, e1], fun b hb hm => ⟨fun h => hm ?_, by simp [Ctx.closed, e1]⟩, Nat.zero_le _, fun k hk => absurd hk (Nat.not_lt_zero k), fun k hk => absurd hk (Nat.not_lt_zero k), fun k _ hk => absurd hk (Nat.not_lt_zero k)⟩
    exact (e2.foreign b (hM b h)).2 h
  refine Rd.ext _ hE ?_
  have := e4 v q3
  simp only [Rd] at this ⊢
  exact this
end Go.Proofs.YteecmgonbdbhdaaDoor.A
end

/-
Plain laws on bits that are turned about, and on the sum of what was turned: no turning of a burst of 32 bits goes unseen.
-/
section
namespace Go.Proofs.YteecmgonbdbhdaaDoor

/-- One bit turned about. -/
def flipB (b : List UInt8) (k : Nat) : List UInt8 := b.modify (k / 8) fun x => x ^^^ UInt8.ofNat (2 ^ (k % 8))
theorem flipB_length (b : List UInt8) (k : Nat) : (flipB b k).length = b.length := List.length_modify _ _ _
/-- The first i bits that p picks turned about, from bit a on. -/
def flipN (p : Nat → Bool) (a : Nat) (b : List UInt8) : Nat → List UInt8
  | 0 => b
  | i + 1 => if p i && decide (a + i < 8 * b.length) then flipB (flipN p a b i) (a + i) else flipN p a b i
theorem flipN_length (p : Nat → Bool) (a : Nat) (b : List UInt8) (i : Nat) : (flipN p a b i).length = b.length := by
  induction i with
  | zero => rfl
  | succ i ih => unfold flipN; split; rw [flipB_length, ih]; exact ih
/-- The bits that are turned, as one number. -/
def fX (bs : Int) : Nat := if (bs % 4294967296).toNat % 2 = 0 then (bs % 4294967296).toNat + 1 else (bs % 4294967296).toNat
theorem fX_lt (bs : Int) : fX bs < 4294967296 := by unfold fX; split <;> omega
theorem fX_odd (bs : Int) : fX bs % 2 = 1 := by unfold fX; split <;> omega
def flipT (b : List UInt8) (bit bs : Int) : List UInt8 := flipN (fun i => decide (fX bs / 2 ^ i % 2 = 1)) (bit % (8 * (b.length : Int))).toNat b 32
theorem flipT_length (b : List UInt8) (bit bs : Int) : (flipT b bit bs).length = b.length := flipN_length _ _ _ _
theorem flipT_nil (bit bs : Int) : flipT [] bit bs = [] := List.eq_nil_of_length_eq_zero (flipT_length _ _ _)

theorem stepsC_zero : ∀ k, stepsC k 0 = 0
  | 0 => rfl
  | k + 1 => by rw [stepsC, stepsC_zero k]; decide
theorem stepC_ne {r : Nat} (h : r < 4294967296) (h0 : r ≠ 0) : stepC r ≠ 0 := by
  unfold stepC
  intro e
  rcases Nat.mod_two_eq_zero_or_one r with h1 | h1
  · rw [if_neg (by omega), Nat.xor_zero] at e; omega
  · rw [if_pos h1] at e
    have : r / 2 = polyN := by
      have h3 : (r / 2 ^^^ polyN) ^^^ polyN = r / 2 := by rw [Nat.xor_assoc, Nat.xor_self, Nat.xor_zero]
      rw [e, Nat.zero_xor] at h3
      exact h3.symm
    simp only [polyN] at this
    omega
theorem stepsC_ne : ∀ (k : Nat) {r : Nat}, r < 4294967296 → r ≠ 0 → stepsC k r ≠ 0
  | 0, _, _, h0 => h0
  | k + 1, _, h, h0 => stepC_ne (stepsC_lt k h) (stepsC_ne k h h0)
theorem stepsC_add : ∀ (j k r : Nat), stepsC (j + k) r = stepsC j (stepsC k r)
  | 0, k, r => by rw [Nat.zero_add]; rfl
  | j + 1, k, r => by rw [show j + 1 + k = (j + k) + 1 by omega, stepsC, stepsC, stepsC_add j k r]
theorem stepsC_two : ∀ (k x : Nat), stepsC k (2 ^ k * x) = x
  | 0, x => by simp [stepsC]
  | k + 1, x => by
    rw [stepsC_succ, show 2 ^ (k + 1) * x = 2 * (2 ^ k * x) by rw [Nat.pow_succ]; rw [Nat.mul_comm (2 ^ k) 2, Nat.mul_assoc], stepC_double, stepsC_two k x]
theorem xor_swap (x p q : Nat) : (x ^^^ p) ^^^ q = (x ^^^ q) ^^^ p := by rw [Nat.xor_assoc, Nat.xor_comm p q, ← Nat.xor_assoc]
/-- What the start of a reckoning adds. -/
theorem foldC_start : ∀ (b : List UInt8) (r s : Nat), foldC (r ^^^ s) b = foldC r b ^^^ stepsC (8 * b.length) s
  | [], r, s => rfl
  | c :: b, r, s => by
    have e : foldC (r ^^^ s) (c :: b) = foldC (eightC (r ^^^ s ^^^ c.toNat)) b := rfl
    have e2 : foldC r (c :: b) = foldC (eightC (r ^^^ c.toNat)) b := rfl
    rw [e, e2, xor_swap, show eightC (r ^^^ c.toNat ^^^ s) = eightC (r ^^^ c.toNat) ^^^ stepsC 8 s from stepsC_xor 8 _ _, foldC_start b, ← stepsC_add, List.length_cons, Nat.mul_add]
/-- What a turned bit adds. -/
theorem foldC_flipB : ∀ (b : List UInt8) (r k : Nat), k < 8 * b.length → foldC r (flipB b k) = foldC r b ^^^ stepsC (8 * b.length - k) 1
  | [], _, _, h => by simp at h
  | c :: b, r, k, h => by
    have e2 : foldC r (c :: b) = foldC (eightC (r ^^^ c.toNat)) b := rfl
    by_cases hk : k < 8
    · have e : flipB (c :: b) k = (c ^^^ UInt8.ofNat (2 ^ (k % 8))) :: b := by
        unfold flipB
        rw [show k / 8 = 0 by omega]
        rfl
      have hp : (2 : Nat) ^ k < 256 := by
        have := Nat.pow_lt_pow_right (a := 2) (by omega) hk
        omega
      rw [e, show foldC r ((c ^^^ UInt8.ofNat (2 ^ (k % 8))) :: b) = foldC (eightC (r ^^^ (c ^^^ UInt8.ofNat (2 ^ (k % 8))).toNat)) b from rfl, UInt8.toNat_xor, Nat.mod_eq_of_lt hk, UInt8.toNat_ofNat_of_lt' hp, ← Nat.xor_assoc,
        show eightC (r ^^^ c.toNat ^^^ 2 ^ k) = eightC (r ^^^ c.toNat) ^^^ stepsC 8 (2 ^ k) from stepsC_xor 8 _ _, foldC_start b, e2, ← stepsC_add, List.length_cons]
      congr 1
      have := stepsC_two k 1
      rw [Nat.mul_one] at this
      rw [show 8 * b.length + 8 = (8 * (b.length + 1) - k) + k by omega, stepsC_add, this]
    · have e : flipB (c :: b) k = c :: flipB b (k - 8) := by
        unfold flipB
        rw [show k / 8 = (k - 8) / 8 + 1 by omega, List.modify_succ_cons, show k % 8 = (k - 8) % 8 by omega]
      simp only [List.length_cons] at h
      rw [e, show foldC r (c :: flipB b (k - 8)) = foldC (eightC (r ^^^ c.toNat)) (flipB b (k - 8)) from rfl, foldC_flipB b _ _ (by omega), e2, List.length_cons]
      congr 2
      omega
/-- The bits of p below i, as one number, of which so many have room. -/
def wordN (p : Nat → Bool) (d : Nat) : Nat → Nat
  | 0 => 0
  | i + 1 => if p i && decide (i < d) then wordN p d i ^^^ 2 ^ i else wordN p d i
theorem wordN_lt (p : Nat → Bool) (d : Nat) : ∀ i, wordN p d i < 2 ^ i
  | 0 => by show 0 < 1; decide
  | i + 1 => by
    have := wordN_lt p d i
    unfold wordN
    have h2 : (2 : Nat) ^ i < 2 ^ (i + 1) := Nat.pow_lt_pow_right (by omega) (by omega)
    split
    · exact Nat.xor_lt_two_pow (by omega) h2
    · omega
theorem wordN_bit (p : Nat → Bool) (d : Nat) (hp : p 0 = true) (hd : 0 < d) : ∀ i, 0 < i → (wordN p d i) % 2 = 1
  | 1, _ => by simp [wordN, hp, hd]
  | i + 2, _ => by
    have ih := wordN_bit p d hp hd (i + 1) (by omega)
    unfold wordN
    split
    · rw [xor_odd, Nat.pow_succ]; omega
    · exact ih
theorem foldC_flipN (p : Nat → Bool) (a : Nat) (b : List UInt8) (r : Nat) (ha : a < 8 * b.length) : ∀ i, foldC r (flipN p a b i) = foldC r b ^^^ stepsC (8 * b.length - a) (wordN p (8 * b.length - a) i)
  | 0 => by simp [flipN, wordN, stepsC_zero]
  | i + 1 => by
    have ih := foldC_flipN p a b r ha i
    unfold flipN wordN
    have hc : (p i && decide (a + i < 8 * b.length)) = (p i && decide (i < 8 * b.length - a)) := by
      congr 1
      exact decide_eq_decide.2 (by omega)
    rw [hc]
    split
    · rename_i h
      simp only [Bool.and_eq_true, decide_eq_true_eq] at h
      rw [foldC_flipB _ _ _ (by rw [flipN_length]; omega), ih, flipN_length, stepsC_xor, Nat.xor_assoc]
      congr 2
      have := stepsC_two i 1
      rw [Nat.mul_one] at this
      rw [show 8 * b.length - a = (8 * b.length - (a + i)) + i by omega, stepsC_add, this]
    · exact ih
/-- Four bytes that a reckoning ends with. -/
theorem foldC_word : ∀ (t : List UInt8) (s : Nat), foldC s t = stepsC (8 * t.length) (s ^^^ leN t)
  | [], s => by simp [foldC, leN, stepsC]
  | c :: t, s => by
    have e2 : foldC s (c :: t) = foldC (eightC (s ^^^ c.toNat)) t := rfl
    have h1 : leN (c :: t) = c.toNat ^^^ 256 * leN t := by
      have hc : c.toNat < 2 ^ 8 := c.toNat_lt
      have h := Nat.two_pow_add_eq_or_of_lt hc (leN t)
      have h2 : 2 ^ 8 * leN t ||| c.toNat = c.toNat ^^^ 2 ^ 8 * leN t := by
        apply Nat.eq_of_testBit_eq
        intro i
        rw [Nat.testBit_or, Nat.testBit_xor]
        by_cases hi : i < 8
        · rw [Nat.testBit_two_pow_mul]
          simp [show ¬ 8 ≤ i by omega]
        · have : c.toNat.testBit i = false := Nat.testBit_lt_two_pow (Nat.lt_of_lt_of_le hc (Nat.pow_le_pow_right (by omega) (by omega)))
          rw [this]
          simp
      rw [← h2, ← h]
      simp only [leN]
      omega
    rw [e2, foldC_word t, h1, List.length_cons, Nat.mul_add, stepsC_add]
    congr 1
    rw [← Nat.xor_assoc, stepsC_xor]
    congr 1
    exact (eightC_high _).symm
theorem ones_sub {x : Nat} (h : x < 4294967296) : 4294967295 - x = 4294967295 ^^^ x := (not_u32 x h).symm
/-- What is told by the sum at its end has one sum. -/
theorem sealed_fold {b : List UInt8} (h4 : 4 ≤ b.length) (h : leN (b.drop (b.length - 4)) = sumC (b.take (b.length - 4))) : foldC 4294967295 b = stepsC 32 4294967295 := by
  have e : b = b.take (b.length - 4) ++ b.drop (b.length - 4) := (List.take_append_drop _ _).symm
  have hl : (b.drop (b.length - 4)).length = 4 := by rw [List.length_drop]; omega
  have hlt : foldC 4294967295 (b.take (b.length - 4)) < 4294967296 := foldC_lt _ (by decide)
  have hap : ∀ x y : List UInt8, foldC 4294967295 (x ++ y) = foldC (foldC 4294967295 x) y := fun x y => by simp [foldC]
  conv => lhs; rw [e]
  rw [hap, foldC_word, hl, h, sumC, ones_sub hlt]
  congr 1
  rw [Nat.xor_comm 4294967295, ← Nat.xor_assoc, Nat.xor_self, Nat.zero_xor]
/-- Of right bytes no burst of 32 bits goes unseen. -/
theorem flipT_seen {b : List UInt8} (h4 : 4 ≤ b.length) (h : leN (b.drop (b.length - 4)) = sumC (b.take (b.length - 4))) (bit bs : Int) :
    leN ((flipT b bit bs).drop ((flipT b bit bs).length - 4)) ≠ sumC ((flipT b bit bs).take ((flipT b bit bs).length - 4)) := by
  intro h'
  have h1 := sealed_fold h4 h
  have h2 := sealed_fold (b := flipT b bit bs) (by rw [flipT_length]; exact h4) h'
  have ha : (bit % (8 * (b.length : Int))).toNat < 8 * b.length := by
    have := Int.emod_lt_of_pos bit (show (0 : Int) < 8 * (b.length : Int) by omega)
    have := Int.emod_nonneg bit (show (8 * (b.length : Int)) ≠ 0 by omega)
    omega
  unfold flipT at h2
  rw [foldC_flipN _ _ _ _ ha, h1] at h2
  have h3 : stepsC (8 * b.length - (bit % (8 * (b.length : Int))).toNat) (wordN (fun i => decide (fX bs / 2 ^ i % 2 = 1)) (8 * b.length - (bit % (8 * (b.length : Int))).toNat) 32) ≠ 0 := by
    refine stepsC_ne _ (Nat.lt_of_lt_of_le (wordN_lt _ _ _) (by decide)) ?_
    have := wordN_bit (fun i => decide (fX bs / 2 ^ i % 2 = 1)) (8 * b.length - (bit % (8 * (b.length : Int))).toNat) (by simp [fX_odd]) (by omega) 32 (by decide)
    omega
  apply h3
  have h5 := congrArg (fun x => stepsC 32 4294967295 ^^^ x) h2
  simp only [← Nat.xor_assoc, Nat.xor_self, Nat.zero_xor] at h5
  exact h5
/-- A sector's bytes of which bits were turned are none any more. -/
theorem openE_flip {b : List UInt8} (h : openE b = 0) (bit bs : Int) : openE (flipT b bit bs) = 5 := by
  unfold openE at h
  split at h
  · cases h
  · rename_i hl
    split at h
    · cases h
    · rename_i hs
      have := flipT_seen (b := b) (by omega) (Decidable.not_not.1 hs) bit bs
      unfold openE
      rw [if_neg (by rw [flipT_length]; exact hl), if_pos this]
end Go.Proofs.YteecmgonbdbhdaaDoor
end

/-
Package casemateref01: bits turned about.
-/
section
namespace Go.Proofs.YteecmgonbdbhdaaDoor.A
open Go.RowKit

theorem tmod_emod {a n : Int} (hn : 0 < n) : (if a.tmod n < 0 then a.tmod n + n else a.tmod n) = a % n := by
  have b1 := Int.tmod_lt_of_pos a hn
  have b2 := Int.lt_tmod_of_pos a hn
  split
  · have e1 : (a.tmod n + n) % n = a % n := by
      rw [Int.add_emod_right, Int.tmod_eq_emod]
      split
      · rw [show ((0 : Nat) : Int) = 0 from rfl, Int.sub_zero, Int.emod_emod_of_dvd _ (Int.dvd_refl n)]
      · rw [Int.sub_emod, Int.emod_emod_of_dvd _ (Int.dvd_refl n), show (n.natAbs : Int) = n by omega, Int.emod_self, Int.sub_zero, Int.emod_emod_of_dvd _ (Int.dvd_refl n)]
    rw [← e1, Int.emod_eq_of_lt (by omega) (by omega)]
  · rename_i hr
    have e1 := Int.tmod_eq_emod (a := a) (b := n)
    rw [Int.tmod_eq_emod]
    split
    · omega
    · rename_i hc
      rw [if_neg hc] at e1
      have := Int.emod_lt_of_pos a hn
      omega
theorem mod_fn (a n : Int) (hn : 0 < n) (hn2 : n ≤ 4611686018427387904) : Fn Tryd.prog 59 [.v (.int .i64 a), .v (.int .i64 n)] fun r => r = .v (.int .i64 (a % n)) := by
  have b1 := Int.tmod_lt_of_pos a hn
  have b2 := Int.lt_tmod_of_pos a hn
  have he := tmod_emod (a := a) hn
  refine Fn.of tys_ok Tryd.func59 rfl rfl (Nat.le_of_ble_eq_true rfl) ?_
  conv => whnf
  refine And.intro (by omega) ?_
  conv => whnf
  repeat' (first | (refine aSeq.go ?_; conv => whnf) | (refine boolI (fun _ => ?_) (fun _ => ?_) <;> conv => whnf) | (refine And.intro (by first | omega | exact of_decide_eq_true rfl) ?_; conv => whnf))
  all_goals refine ⟨_, fun _ _ h => h, ?_⟩
  · rw [if_pos (by assumption)] at he
    rw [wi (by omega), he]
  · rw [if_neg (by omega)] at he
    rw [he]
def bR (b : List UInt8) : List (List AV) := b.map fun x => [.v (.int .u8 x.toNat)]
theorem bR_get {b : List UInt8} {i : Nat} (h : i < b.length) : (bR b).getD i [] = [.v (.int .u8 (b.getD i 0).toNat)] := map_getD (d := 0) h
theorem bR_set (b : List UInt8) (i : Nat) (y : UInt8) : (bR b).set i [.v (.int .u8 y.toNat)] = bR (b.set i y) := by simp [bR, List.map_set]
theorem bR_sub (b : List UInt8) (c : Ctx) (u : Value) (h : Rd (.sl 1 b.length fun i => (bR b).getD i []) c u) : Rd (bA b) c u :=
  Rd.congr rfl (fun i hi => map_getD (d := 0) hi) h
theorem bR_sub' {b : List UInt8} {n : Nat} (hn : n = b.length) (c : Ctx) (u : Value) (h : Rd (.sl 1 n fun i => (bR b).getD i []) c u) : Rd (bA b) c u := by
  subst hn; exact bR_sub b c u h
theorem bR_range (b : List UInt8) : (List.range b.length).map (fun i => [AV.v (.int .u8 (b.getD i 0).toNat)]) = bR b := by
  apply List.ext_getElem
  · simp [bR]
  · intro i h1 h2
    simp only [List.length_map, List.length_range] at h1
    simp [bR, List.getD_eq_getElem?_getD, List.getElem?_eq_getElem h1]
theorem twin_fno (b : List UInt8) (hb : b.length ≤ 1000000000) : FnO Tryd.prog 31 [bA b] fun r R => r = .ow 0 b.length ∧ R = [.row 5 1 (bR b)] := by
  refine FnO.of tys_ok Tryd.func31 rfl rfl (Nat.le_of_ble_eq_true rfl) ?_
  conv => whnf
  refine ⟨hb, ?_⟩
  conv => whnf
  exact ⟨rfl, by rw [bR_range]⟩
theorem u8_xor (x : UInt8) (z : Nat) (hz : z < 256) : IntKind.u8.wrap (BitVec.ofInt IntKind.u8.bits (x.toNat : Int) ^^^ BitVec.ofInt IntKind.u8.bits (z : Int)).toNat = ((x ^^^ UInt8.ofNat z).toNat : Int) := by
  show IntKind.u8.wrap (BitVec.ofInt 8 (x.toNat : Int) ^^^ BitVec.ofInt 8 (z : Int)).toNat = ((x ^^^ UInt8.ofNat z).toNat : Int)
  have hx := x.toNat_lt
  have h1 : (BitVec.ofInt 8 (x.toNat : Int)) = BitVec.ofNat 8 x.toNat := BitVec.ofInt_natCast _ _
  have h2 : (BitVec.ofInt 8 (z : Int)) = BitVec.ofNat 8 z := BitVec.ofInt_natCast _ _
  have h3 : x.toNat ^^^ z < 256 := Nat.xor_lt_two_pow (n := 8) hx hz
  rw [h1, h2, BitVec.toNat_xor, BitVec.toNat_ofNat, BitVec.toNat_ofNat, Nat.mod_eq_of_lt hx, Nat.mod_eq_of_lt hz, UInt8.toNat_xor, UInt8.toNat_ofNat_of_lt' hz, IntKind.wrap_u8]
  omega
theorem flipB_set (b : List UInt8) (k : Nat) (h : k / 8 < b.length) : flipB b k = b.set (k / 8) (b.getD (k / 8) 0 ^^^ UInt8.ofNat (2 ^ (k % 8))) := by
  rw [List.getD_eq_getElem?_getD, List.getElem?_eq_getElem h]
  unfold flipB
  apply List.ext_getElem?
  intro i
  rw [List.getElem?_modify, List.getElem?_set]
  split
  · subst_vars; simp [h]
  · simp
theorem flipN_stop (p : Nat → Bool) (a : Nat) (b : List UInt8) (k : Nat) (h : ∀ j, k ≤ j → p j = false ∨ 8 * b.length ≤ a + j) : ∀ n, k ≤ n → flipN p a b n = flipN p a b k := by
  intro n hn
  induction n with
  | zero => obtain rfl : k = 0 := by omega
            rfl
  | succ n ih =>
    by_cases hk : k = n + 1
    · rw [hk]
    · rw [flipN, if_neg, ih (by omega)]
      rcases h n (by omega) with h | h
      · simp [h]
      · simp; omega
set_option maxRecDepth 100000 in
theorem rflip_fn (b : List UInt8) (bit bs : Int) (hb : b.length ≤ 1000000) : Fn Tryd.prog 32 [bA b, .v (.int .i64 bit), .v (.int .i64 bs)] fun r => r = bA (flipT b bit bs) := by
  refine Fn.of tys_ok Tryd.func32 rfl rfl (Nat.le_of_ble_eq_true rfl) ?_
  conv => whnf
  refine FnO.call (twin_fno b (by omega)) rfl ?_
  rintro _ _ ⟨rfl, rfl⟩
  conv => whnf
  refine boolI (fun h0 => ?_) (fun h0 => ?_) <;> (repeat rw [Int.toNat_natCast] at h0) <;> conv => whnf
  · refine ⟨by simp [bR], ?_⟩
    conv => whnf
    have e : b = [] := List.eq_nil_of_length_eq_zero (by omega)
    subst e
    exact ⟨_, fun c u h => bR_sub [] c u h, by rw [flipT_nil]⟩
  have hn : b.length ≠ 0 := by omega
  have w8 : IntKind.i64.wrap (8 * (b.length : Int)) = 8 * b.length := wi (by omega)
  rw [w8]
  refine Fn.closed (mod_fn bit (8 * b.length) (by omega) (by omega)) rfl ?_
  rintro _ rfl
  conv => whnf
  refine Fn.closed (mod_fn bs 4294967296 (by omega) (by omega)) rfl ?_
  rintro _ rfl
  conv => whnf
  have a1 := Int.emod_lt_of_pos bit (show (0 : Int) < 8 * b.length by omega)
  have a2 := Int.emod_nonneg bit (show (8 * (b.length : Int)) ≠ 0 by omega)
  have b1 := Int.emod_lt_of_pos bs (show (0 : Int) < 4294967296 by omega)
  have b2 := Int.emod_nonneg bs (show (4294967296 : Int) ≠ 0 by omega)
  have hX : IntKind.i64.wrap ((fX bs : Nat) : Int) = (fX bs : Nat) := wi (by have := fX_lt bs; omega)
  refine aSeq.cut Unit (fun _ => ([(7, .ow 0 b.length), (8, .v (.int .i64 (bit % (8 * b.length)))), (9, .v (.int .i64 (fX bs : Nat)))], [.row 5 1 (bR b)])) (fun _ => True) ?_ ?_
  · conv => whnf
    refine And.intro (by decide) ?_
    conv => whnf
    refine boolI (fun hx => ?_) (fun hx => ?_) <;> (repeat rw [Int.toNat_natCast] at hx) <;> conv => whnf
    · rw [Int.tmod_eq_emod_of_nonneg b2] at hx
      have ex : IntKind.i64.wrap (bs % 4294967296 + 1) = (fX bs : Nat) := by
        rw [wi (by omega)]
        unfold fX
        rw [if_pos (by omega)]
        omega
      exact ⟨(), trivial, (Wk.plain (by repeat' first | exact trivial | exact rfl | refine And.intro ?_ ?_ | exact wsucc (by omega) | exact congrArg (fun n => AV.v (.int .i64 n)) ex) (by repeat' first | exact trivial | exact rfl | refine And.intro ?_ ?_ | exact wsucc (by omega) | exact congrArg (fun n => AV.v (.int .i64 n)) ex) rfl rfl rfl)⟩
    · rw [Int.tmod_eq_emod_of_nonneg b2] at hx
      have ex : bs % 4294967296 = (fX bs : Nat) := by
        unfold fX
        rw [if_neg (by omega)]
        omega
      exact ⟨(), trivial, (Wk.plain (by repeat' first | exact trivial | exact rfl | refine And.intro ?_ ?_ | exact wsucc (by omega) | exact congrArg (fun n => AV.v (.int .i64 n)) ex) (by repeat' first | exact trivial | exact rfl | refine And.intro ?_ ?_ | exact wsucc (by omega) | exact congrArg (fun n => AV.v (.int .i64 n)) ex) rfl rfl rfl)⟩
  rintro - -
  conv => whnf
  have hXl := fX_lt bs
  have hR : flipN (fun i => decide (fX bs / 2 ^ i % 2 = 1)) (bit % (8 * (b.length : Int))).toNat b 32 = flipT b bit bs := rfl
  obtain ⟨X, eX⟩ : ∃ X, X = fX bs := ⟨_, rfl⟩
  obtain ⟨A, eA⟩ : ∃ A : Nat, (A : Int) = bit % (8 * b.length) := ⟨(bit % (8 * (b.length : Int))).toNat, by omega⟩
  rw [← eX, ← eA, Int.toNat_natCast] at hR
  rw [← eX] at hXl
  rw [← eX, ← eA]
  refine aLoop.rule Nat (fun k => ([(7, .ow 0 b.length), (9, .v (.int .i64 (X / 2 ^ k : Nat))), (10, .v (.int .i64 ((A + k : Nat) : Int)))], [.row 5 1 (bR (flipN (fun i => decide (X / 2 ^ i % 2 = 1)) A b k))])) (fun k => k ≤ 32) (fun k => 32 - k) 0 (Nat.zero_le _) (Wk.plain (by repeat' first | exact trivial | exact rfl | refine And.intro ?_ ?_ | exact wsucc (by omega) | exact congrArg (fun n => AV.v (.int .i64 n)) (by rw [Nat.pow_zero, Nat.div_one])) (by repeat' first | exact trivial | exact rfl | refine And.intro ?_ ?_ | exact wsucc (by omega) | exact congrArg (fun n => AV.v (.int .i64 n)) (by rw [Nat.pow_zero, Nat.div_one])) rfl rfl rfl) ?_
  intro k hk
  have hfl := flipN_length (fun i => decide (X / 2 ^ i % 2 = 1)) A b k
  have hnx : X / 2 ^ (k + 1) = X / 2 ^ k / 2 := by rw [Nat.pow_succ, Nat.div_div_eq_div_mul]
  have hA : A < 8 * b.length := by omega
  conv => whnf
  have stop : X / 2 ^ k = 0 ∨ 8 * b.length ≤ A + k → flipN (fun i => decide (X / 2 ^ i % 2 = 1)) A b k = flipT b bit bs := fun h => by
    rw [← hR]
    refine (flipN_stop _ _ _ _ (fun j hj => ?_) 32 hk).symm
    rcases h with h | h
    · refine .inl ?_
      have : X / 2 ^ j = 0 := by
        obtain ⟨d, rfl⟩ := Nat.exists_eq_add_of_le hj
        rw [Nat.pow_add, ← Nat.div_div_eq_div_mul, h, Nat.zero_div]
      simp [this]
    · exact .inr (by omega)
  refine boolI (fun h1 => ?_) (fun h1 => ?_) <;> (repeat rw [Int.toNat_natCast] at h1) <;> conv => whnf
  · rw [w8]
    refine boolI (fun h2 => ?_) (fun h2 => ?_) <;> (repeat rw [Int.toNat_natCast] at h2) <;> conv => whnf
    · have hk32 : k < 32 := by
        rcases Nat.lt_or_ge k 32 with h | h
        · exact h
        · have : X / 2 ^ k = 0 := Nat.div_eq_of_lt (Nat.lt_of_lt_of_le hXl (Nat.pow_le_pow_right (n := 2) (by omega) h))
          omega
      have e1 : IntKind.i64.wrap (((X / 2 ^ k : Nat) : Int).tdiv 2) = ((X / 2 ^ (k + 1) : Nat) : Int) := by
        rw [Int.tdiv_eq_ediv_of_nonneg (by omega), hnx]
        have := Nat.div_le_self X (2 ^ k)
        rw [wi (by omega)]
        omega
      have e2 : IntKind.i64.wrap (((A + k : Nat) : Int) + 1) = ((A + (k + 1) : Nat) : Int) := by
        rw [wi (by omega)]; omega
      refine aSeq.go ?_
      conv => whnf
      refine aSeq.cut Unit (fun _ => ([(7, .ow 0 b.length), (9, .v (.int .i64 (X / 2 ^ k : Nat))), (10, .v (.int .i64 ((A + k : Nat) : Int)))], [.row 5 1 (bR (flipN (fun i => decide (X / 2 ^ i % 2 = 1)) A b (k + 1)))])) (fun _ => True) ?_ ?_
      · conv => whnf
        refine And.intro (by decide) ?_
        conv => whnf
        have hq : (A + k) / 8 < b.length := by omega
        have hz : (2 : Nat) ^ ((A + k) % 8) < 256 := by
          have := Nat.pow_lt_pow_right (a := 2) (by omega) (show (A + k) % 8 < 8 by omega)
          omega
        refine boolI (fun h3 => ?_) (fun h3 => ?_) <;> (repeat rw [Int.toNat_natCast] at h3) <;> conv => whnf
        · rw [Int.tmod_eq_emod_of_nonneg (by omega)] at h3
          have hE : flipN (fun i => decide (X / 2 ^ i % 2 = 1)) A b (k + 1) = flipB (flipN (fun i => decide (X / 2 ^ i % 2 = 1)) A b k) (A + k) := by
            rw [flipN, if_pos]
            simp only [Bool.and_eq_true, decide_eq_true_eq]
            omega
          have eq : IntKind.i64.wrap (((A + k : Nat) : Int).tdiv 8) = (((A + k) / 8 : Nat) : Int) := by
            rw [Int.tdiv_eq_ediv_of_nonneg (by omega), wi (by omega)]
            omega
          have er : IntKind.u64.wrap (((A + k : Nat) : Int).tmod 8) = (((A + k) % 8 : Nat) : Int) := by
            rw [Int.tmod_eq_emod_of_nonneg (by omega), IntKind.wrap_u64]
            omega
          have es : IntKind.u8.wrap (1 * 2 ^ min ((((A + k) % 8 : Nat) : Int).toNat) IntKind.u8.bits) = ((2 ^ ((A + k) % 8) : Nat) : Int) := by
            rw [Int.toNat_natCast, show min ((A + k) % 8) IntKind.u8.bits = (A + k) % 8 from Nat.min_eq_left (by show _ ≤ 8; omega), Int.one_mul, IntKind.wrap_u8]
            have : ((2 ^ ((A + k) % 8) : Nat) : Int) = (2 : Int) ^ ((A + k) % 8) := by simp
            rw [← this]
            generalize 2 ^ ((A + k) % 8) = z at hz ⊢
            omega
          refine And.intro (by decide) ?_
          conv => whnf
          refine And.intro (by decide) ?_
          conv => whnf
          rw [eq]
          refine And.intro ⟨by omega, by omega⟩ ?_
          conv => whnf
          refine And.intro ⟨rfl, by simp [bR, hfl], by omega⟩ ?_
          conv => whnf
          rw [Int.toNat_natCast, bR_get (by rw [hfl]; omega)]
          conv => whnf
          refine And.intro (by decide) ?_
          conv => whnf
          rw [er]
          refine And.intro (by omega) ?_
          conv => whnf
          refine And.intro ⟨by omega, by omega⟩ ?_
          conv => whnf
          rw [es]
          refine And.intro ⟨rfl, by simp [bR, hfl], by omega⟩ ?_
          conv => whnf
          rw [Int.toNat_natCast, bR_get (by rw [hfl]; omega)]
          conv => whnf
          have ex := u8_xor ((flipN (fun i => decide (X / 2 ^ i % 2 = 1)) A b k).getD ((A + k) / 8) 0) (2 ^ ((A + k) % 8)) hz
          rw [ex, bR_set, ← flipB_set _ _ (by rw [hfl]; omega), ← hE]
          exact ⟨(), trivial, (Wk.plain (by repeat' first | exact trivial | exact rfl | refine And.intro ?_ ?_ | exact wsucc (by omega)) (by repeat' first | exact trivial | exact rfl | refine And.intro ?_ ?_ | exact wsucc (by omega)) rfl rfl rfl)⟩
        · rw [Int.tmod_eq_emod_of_nonneg (by omega)] at h3
          have hE : flipN (fun i => decide (X / 2 ^ i % 2 = 1)) A b (k + 1) = flipN (fun i => decide (X / 2 ^ i % 2 = 1)) A b k := by
            rw [flipN, if_neg]
            simp only [Bool.and_eq_true, decide_eq_true_eq]
            intro hh
            apply h3
            have := hh.1
            omega
          exact ⟨(), trivial, (Wk.plain (by repeat' first | exact trivial | exact rfl | refine And.intro ?_ ?_ | exact wsucc (by omega) | exact congrArg (fun l => AB.row _ _ (bR l)) hE) (by repeat' first | exact trivial | exact rfl | refine And.intro ?_ ?_ | exact wsucc (by omega) | exact congrArg (fun l => AB.row _ _ (bR l)) hE) rfl rfl rfl)⟩
      · rintro - -
        conv => whnf
        refine And.intro (by decide) ?_
        conv => whnf
        exact ⟨k + 1, by omega, by omega, (Wk.plain (by repeat' first | exact trivial | exact rfl | refine And.intro ?_ ?_ | exact wsucc (by omega) | exact congrArg (fun n => AV.v (.int .i64 n)) e1 | exact congrArg (fun n => AV.v (.int .i64 n)) e2) (by repeat' first | exact trivial | exact rfl | refine And.intro ?_ ?_ | exact wsucc (by omega) | exact congrArg (fun n => AV.v (.int .i64 n)) e1 | exact congrArg (fun n => AV.v (.int .i64 n)) e2) rfl rfl rfl)⟩
    · refine ⟨by simp [bR, hfl], ?_⟩
      conv => whnf
      rw [stop (.inr (by omega))]
      exact ⟨_, fun c u h => bR_sub' (by rw [flipT_length]) c u h, rfl⟩
  · refine ⟨by simp [bR, hfl], ?_⟩
    conv => whnf
    rw [stop (.inl (Nat.eq_zero_of_le_zero (Int.ofNat_le.1 h1)))]
    exact ⟨_, fun c u h => bR_sub' (by rw [flipT_length]) c u h, rfl⟩
end Go.Proofs.YteecmgonbdbhdaaDoor.A
end

/-
Plain laws on a transaction's records.
-/
section
namespace Go.Proofs.YteecmgonbdbhdaaDoor

def rc0 : Rc := ⟨0, 0, 0, 0, 0, ⟨0, 0, []⟩⟩
theorem recsOf_length (seq epoch : Int) (l : List Img) : (recsOf seq epoch l).length = l.length + 1 := by
  unfold recsOf
  rw [List.length_append, imgR_len]
  simp
theorem recs_getD (seq epoch : Int) (l : List Img) {k : Nat} (hk : k < l.length + 1) : (recsOf seq epoch l).getD k rc0 = if k < l.length then ⟨1, seq, epoch, (k : Nat), l.length + 1, l.getD k ⟨0, 0, []⟩⟩ else ⟨2, seq, epoch, (k : Nat), l.length + 1, noImg⟩ := by
  have hlen : (imgR seq epoch (l.length + 1) l.length l).length = l.length := by rw [imgR_len]; omega
  unfold recsOf
  rw [List.getD_eq_getElem?_getD]
  by_cases h : k < l.length
  · rw [if_pos h, List.getElem?_append_left (by omega)]
    have h2 : (imgR seq epoch (l.length + 1) l.length l)[k]? = some ⟨1, seq, epoch, (k : Nat), l.length + 1, l[k]⟩ := by
      unfold imgR
      rw [List.take_length, List.getElem?_map, List.getElem?_zipIdx, List.getElem?_eq_getElem h]
      simp
    rw [h2, List.getD_eq_getElem?_getD, List.getElem?_eq_getElem h]
    rfl
  · have e : k = l.length := by omega
    subst e
    rw [if_neg h, List.getElem?_append_right (by omega), hlen]
    simp
structure RecAt (g : Geo) (seq epoch : Int) (l : List Img) (k : Nat) (r : Rc) : Prop where
  ok : okR g r = true
  seq : r.seq = seq
  epoch : r.epoch = epoch
  at_ : r.at_ = (k : Nat)
  of_ : r.of_ = l.length + 1
  kind : r.kind ≠ 0
  img : (r.kind = 1 ↔ k < l.length) ∧ (k < l.length → r.img = l.getD k ⟨0, 0, []⟩)
theorem recs_at {g : Geo} {seq epoch : Int} {l : List Img} (hg : okG g = true) (hs : 0 ≤ seq ∧ seq ≤ 4294967295) (he : 0 ≤ epoch ∧ epoch ≤ 4294967295) (hi : ∀ x ∈ l, imgOk g x = true) (h1 : 1 ≤ l.length) (h2 : l.length ≤ 29) {k : Nat} (hk : k < l.length + 1) :
    RecAt g seq epoch l k ((recsOf seq epoch l).getD k rc0) := by
  have hs' : inB seq 0 4294967295 = true := inB_iff.2 hs
  have he' : inB epoch 0 4294967295 = true := inB_iff.2 he
  rw [recs_getD seq epoch l hk]
  split
  · rename_i h
    have hm : l.getD k ⟨0, 0, []⟩ ∈ l := by rw [List.getD_eq_getElem?_getD, List.getElem?_eq_getElem h]; exact List.getElem_mem h
    refine ⟨?_, rfl, rfl, rfl, rfl, by show (1 : Int) ≠ 0; decide, ⟨fun _ => h, fun _ => rfl⟩, fun _ => rfl⟩
    simp only [okR, hg, behOk, numsB, hs', he', hi _ hm, Bool.true_and, Bool.and_true]
    simp only [if_neg (show ¬ (1 : Int) = 0 by omega), if_true, Bool.and_eq_true, inB_iff]
    omega
  · rename_i h
    refine ⟨?_, rfl, rfl, rfl, rfl, by show (2 : Int) ≠ 0; decide, ⟨fun h => absurd h (by show ¬ (2 : Int) = 1; decide), fun h' => absurd h' h⟩, fun h' => absurd h' h⟩
    simp only [okR, hg, behOk, numsB, hs', he', Bool.true_and]
    simp only [if_neg (show ¬ (2 : Int) = 0 by omega), if_neg (show ¬ (2 : Int) = 1 by omega), if_true, Bool.and_eq_true, inB_iff, beq_iff_eq, noneB, noImg]
    simp; omega
end Go.Proofs.YteecmgonbdbhdaaDoor
end

/-
A transaction's records: the package's, the reference's.
-/
section
namespace Go.Proofs.YteecmgonbdbhdaaDoor.A
open Go.RowKit

theorem clone_br (b : List UInt8) (hl : b.length ≤ 1000000000) : Fn Tryd.prog 90 [bA b] fun r => r = bA b := by
  refine ⟨⟨_, Tryd.func90, rfl, by decide⟩, fun c0 us hd hM _ hr => ?_⟩
  obtain ⟨u, rfl, h1⟩ := rd1 hr
  refine (bclone_any u b c0.w c0.M c0.M (toBytes h1) hl).mono ?_
  rintro e w' ⟨r, rfl, ho, hB⟩
  exact ⟨_, _, rfl, rfl, hB, ofBytes (c := { c0 with w := w' }) (ho.sl fun b hb hm => by have := hM b hm; omega)⟩
theorem imgR_step' (seq epoch of_ : Int) {k : Nat} {l : List Img} (hk : k < l.length) : (imgR seq epoch of_ (k + 1) l).map rcC = (imgR seq epoch of_ k l).map rcC ++ [rcC ⟨1, seq, epoch, (k : Nat), of_, l.getD k ⟨0, 0, []⟩⟩] := by
  rw [imgR_step seq epoch of_ hk, List.map_append, List.getD_eq_getElem?_getD, List.getElem?_eq_getElem hk]; rfl

def lastC (seq epoch n : Int) : List AV := [.v (.int .i64 2), .v (.int .i64 seq), .v (.int .i64 epoch), .v (.int .i64 n), .v (.int .i64 (n + 1)), .v (.int .i64 0), .v (.int .i64 0), .v (.slice none 0 0)]
theorem recs_sub (seq epoch : Int) (l : List Img) (i : Nat) (hi : i < l.length + 1) :
    SubL ((List.map rcC (imgR seq epoch (l.length + 1) l.length l) ++ [lastC seq epoch l.length]).getD i [])
      (rcC ((recsOf seq epoch l).getD i ⟨0, 0, 0, 0, 0, ⟨0, 0, []⟩⟩)) := by
  have hlk : (imgR seq epoch (l.length + 1) l.length l).length = l.length := by rw [imgR_len]; omega
  rcases Nat.lt_or_ge i l.length with h | h
  · have e1 : (List.map rcC (imgR seq epoch (l.length + 1) l.length l) ++ [lastC seq epoch l.length]).getD i [] = rcC ((recsOf seq epoch l).getD i ⟨0, 0, 0, 0, 0, ⟨0, 0, []⟩⟩) := by
      unfold recsOf
      rw [getD_app (by rw [List.length_map, hlk]; exact h), getD_app (by rw [hlk]; exact h)]
      exact map_getD (by rw [hlk]; exact h)
    rw [e1]
    exact SubL.refl _
  · obtain rfl : i = l.length := by omega
    unfold recsOf
    rw [getD_appR (by rw [List.length_map, hlk]; omega), getD_appR (by rw [hlk]; omega), List.length_map, hlk, Nat.sub_self]
    simp only [List.getD_cons_zero, rcC, noImg, lastC]
    exact ⟨fun _ _ h => h, fun _ _ h => h, fun _ _ h => h, fun _ _ h => h, fun _ _ h => h, fun _ _ h => h, fun _ _ h => h, nil_sl _ _, trivial⟩
theorem recsOf_len (seq epoch : Int) (l : List Img) : (recsOf seq epoch l).length = l.length + 1 := by
  unfold recsOf; rw [List.length_append, imgR_len]; simp
theorem records_fn (seq epoch : Int) (l : List Img) (hl : l.length ≤ 1000000) (hb : ∀ x ∈ l, x.bytes.length ≤ 1000000000) : Fn Tryd.prog 26 [.v (.int .i64 seq), .v (.int .i64 epoch), imgsA l] fun r => r = recsA (recsOf seq epoch l) := by
  refine Fn.of tys_ok Tryd.func26 rfl rfl (Nat.le_of_ble_eq_true rfl) ?_
  conv => whnf
  refine aLoop.rule Nat (fun k => ([(0, .v (.int .i64 seq)), (1, .v (.int .i64 epoch)), (2, imgsA l), (7, .ow 0 k), (8, .v (.int .i64 k))], [.row 34 8 ((imgR seq epoch (l.length + 1) k l).map rcC)])) (fun k => k ≤ l.length) (fun k => l.length - k) 0 (Nat.zero_le _) ⟨[(7, 34, 8)], ⟨rfl, rfl, trivial⟩, ⟨rfl, rfl, rfl, rfl, rfl, trivial⟩, ⟨rfl, trivial⟩, rfl, rfl, rfl⟩ ?_
  rintro k hk
  have hlk := imgR_len seq epoch (l.length + 1) k l
  conv => whnf
  refine boolK_intro (fun h2 => ?_) (fun h2 => ?_) <;> simp at h2 <;> conv => whnf
  · refine aDraw.seq tys_ok mixed (by kernel_rfl) ?_
    conv => whnf
    refine ⟨by omega, ?_⟩
    conv => whnf
    refine ⟨by omega, ?_⟩
    conv => whnf
    refine ⟨by omega, ?_⟩
    conv => whnf
    refine Fn.closed (twin_fn (l.getD k ⟨0, 0, []⟩).bytes (hb _ (getD_mem h2))) rfl ?_
    rintro _ rfl
    conv => whnf
    refine ⟨rfl, ?_⟩
    conv => whnf
    refine ⟨⟨by rw [List.length_map, hlk]; omega, by omega⟩, ?_⟩
    conv => whnf
    refine ⟨k + 1, by omega, by omega, [], trivial, ⟨rfl, rfl, rfl, rfl, wsucc (by omega), trivial⟩, ⟨rowEq ?_, trivial⟩, rfl, rfl, rfl⟩
    rw [imgR_step' _ _ _ h2, wi (by omega)]
    rfl
  · obtain rfl : k = l.length := by omega
    rw [wi (by omega)]
    refine ⟨rfl, ?_⟩
    conv => whnf
    refine ⟨⟨by rw [List.length_map, hlk]; omega, by omega⟩, ?_⟩
    conv => whnf
    refine ⟨by rw [List.length_append, List.length_map, hlk]; simp, ?_⟩
    conv => whnf
    exact ⟨recsA (recsOf seq epoch l), fun c v h => Rd.sub (recsOf_len seq epoch l).symm (recs_sub seq epoch l) h, rfl⟩

end Go.Proofs.YteecmgonbdbhdaaDoor.A
end

/-
The law PairLeft.
-/
section
namespace Go.Proofs.YteecmgonbdbhdaaDoor.A
open Go.RowKit

def spoilT (x : Gt) (how bits : Int) : Gt × Bool :=
  if (IntKind.u64.wrap how).tmod 4 = 1 then (⟨6, []⟩, false) else if (IntKind.u64.wrap how).tmod 4 = 2 then (⟨0, flipT x.bytes bits bits⟩, false) else if (IntKind.u64.wrap how).tmod 4 = 3 then (⟨0, []⟩, false) else (x, true)
theorem spoil_fn (g : Geo) (x : Gt) (how bits : Int) (hx : x.bytes.length ≤ 1000000) : Fn Tryd.prog 27 [.ag (geoC g), .ag (gotC x), .v (.int .i64 how), .v (.int .i64 bits)] fun r => r = .tp [.ag (gotC (spoilT x how bits).1), .v (.bool (spoilT x how bits).2)] := by
  refine Fn.of tys_ok Tryd.func27 rfl rfl (Nat.le_of_ble_eq_true rfl) ?_
  conv => whnf
  refine And.intro (by decide) ?_
  conv => whnf
  have z : ∀ (e : Int) (b : Bool) (c : Ctx) (u : Value), Rd (.tp [.ag [.v (.int .i64 e), .v (.slice none 0 0)], .v (.bool b)]) c u → Rd (.tp [.ag (gotC ⟨e, []⟩), .v (.bool b)]) c u := fun e b c u h => by
    refine tp_sub ?_ c u h
    exact ⟨ag_sub ⟨fun _ _ h => h, nil_sl _ _, trivial⟩, fun _ _ h => h, trivial⟩
  refine boolI (fun t1 => ?_) (fun t1 => ?_) <;> (repeat rw [Int.toNat_natCast] at t1) <;> conv => whnf
  · exact ⟨_, z 6 false, by simp only [spoilT, if_pos t1]⟩
  refine boolI (fun t2 => ?_) (fun t2 => ?_) <;> (repeat rw [Int.toNat_natCast] at t2) <;> conv => whnf
  · refine Fn.closed (rflip_fn x.bytes bits bits hx) rfl ?_
    rintro _ rfl
    conv => whnf
    exact ⟨_, fun _ _ h => h, by simp only [spoilT, if_neg t1, if_pos t2]; rfl⟩
  refine boolI (fun t3 => ?_) (fun t3 => ?_) <;> (repeat rw [Int.toNat_natCast] at t3) <;> conv => whnf
  · exact ⟨_, z 0 false, by simp only [spoilT, if_neg t1, if_neg t2, if_pos t3]⟩
  · exact ⟨_, fun _ _ h => h, by simp only [spoilT, if_neg t1, if_neg t2, if_neg t3]; rfl⟩
theorem spoil_says {g : Geo} {r : Rc} {copy slot : Int} (hg : okG g = true) (hok : okR g r = true) (hl : okL g copy slot = true) (how bits : Int) :
    saysR g (spoilT ⟨0, cellB g r copy slot⟩ how bits).1 copy slot = (if (spoilT ⟨0, cellB g r copy slot⟩ how bits).2 then some r else none) ∧ (spoilT ⟨0, cellB g r copy slot⟩ how bits).1.bytes.length ≤ 100000 := by
  have hb := logAt_bounds hg hl
  have hs := okR_seq hok
  have hn := recB_short hok
  have ho : openE (cellB g r copy slot) = 0 := (seal_open (a := logAt g copy slot) (s := r.seq) (p := recB r) ⟨hb.1, hb.2, hs.1, hs.2, by omega⟩).1
  unfold spoilT
  split
  · exact ⟨says_err (by show (6 : Int) ≠ 0; decide), Nat.zero_le _⟩
  split
  · exact ⟨says_bad (by simp only [openE_flip ho]; decide), by simp only [flipT_length]; exact cellB_short hok copy slot⟩
  split
  · exact ⟨says_bad (by decide), Nat.zero_le _⟩
  · exact ⟨says_cell hg hok hl, cellB_short hok copy slot⟩
theorem anOk_epoch {g : Geo} {a : An} (h : anOk g a = true) : 0 ≤ a.epoch ∧ a.epoch ≤ 4294967295 := by
  simp only [anOk, List.all_cons, Bool.and_eq_true, inB_iff] at h
  exact h.1.2.1
theorem imgOk_short {g : Geo} {x : Img} (h : imgOk g x = true) : x.bytes.length ≤ 100 := by
  obtain ⟨h1, -, h3⟩ := imgOk_parts h
  obtain ⟨-, hd, -⟩ := okG_iff.1 h1
  rcases h3 with ⟨-, l, hl⟩ | ⟨-, -, h8⟩
  · have := readT_len hl
    omega
  · omega
def leftQ (ok is : Bool) (r : Rc) : Rc × List Int × Int := if ok && is then (r, [], 1) else if ok then (r, [1], 1) else if is then (r, [0], 1) else (zeroC, [], 3)
theorem look_left {g : Geo} {a : An} {x y : Gt} {slot seq at_ of_ left : Int} {r : Rc} {ok is : Bool} (h0 : saysR g x 0 slot = if ok then some r else none) (h1 : saysR g y 1 slot = if is then some r else none) (h : isOne r a seq at_ of_ left = true) : lookR g a x y slot seq at_ of_ left = leftQ ok is r := by
  unfold lookR
  rw [h0, h1]
  cases ok <;> cases is <;> simp [oneO, h, lookT, leftQ]
set_option maxRecDepth 100000 in
theorem left_fn (g : Geo) (a : An) (l : List Img) (slot seq at_ one two bits : Int) : Fn Tryd.prog 4 [.ag (geoC g), .ag (anC a), imgsA l, .v (.int .i64 slot), .v (.int .i64 seq), .v (.int .i64 at_), .ag (arrC [one, two, bits])] fun r => r = .v (.bool true) := by
  refine Fn.of tys_ok Tryd.func4 rfl rfl (Nat.le_of_ble_eq_true rfl) ?_
  conv => whnf
  refine aDraw.of tys_ok mixed [0, 1, 2, 3, 4, 5, 6, 7, 8] (by kernel_rfl) ?_
  conv => whnf
  repeat' (refine And.intro (by decide) ?_; conv => whnf)
  refine Fn.closed (heavyA_fn a) rfl ?_
  rintro _ rfl
  conv => whnf
  refine boolI (fun t1 => ?_) (fun t1 => ?_) <;> (repeat rw [Int.toNat_natCast] at t1) <;> conv => whnf
  · exact ⟨_, fun _ _ h => h, rfl⟩
  obtain ⟨hh, hl⟩ := heavyA_no t1
  refine boolI (fun t2 => ?_) (fun t2 => ?_) <;> (repeat rw [Int.toNat_natCast] at t2) <;> conv => whnf
  · exact ⟨_, fun _ _ h => h, rfl⟩
  refine Fn.closed (rgeom_br g) rfl ?_
  rintro _ rfl
  conv => whnf
  refine boolI (fun t3 => ?_) (fun t3 => ?_) <;> (repeat rw [Int.toNat_natCast] at t3) <;> conv => whnf
  · exact ⟨_, fun _ _ h => h, rfl⟩
  refine Fn.closed (ranchor_fn g a t3 (by omega)) rfl ?_
  rintro _ rfl
  conv => whnf
  refine boolI (fun t4 => ?_) (fun t4 => ?_) <;> (repeat rw [Int.toNat_natCast] at t4) <;> conv => whnf
  · exact ⟨_, fun _ _ h => h, rfl⟩
  refine boolI (fun t5 => ?_) (fun t5 => ?_) <;> (repeat rw [Int.toNat_natCast] at t5) <;> conv => whnf
  · exact ⟨_, fun _ _ h => h, rfl⟩
  refine boolI (fun t6 => ?_) (fun t6 => ?_) <;> (repeat rw [Int.toNat_natCast] at t6) <;> conv => whnf
  · exact ⟨_, fun _ _ h => h, rfl⟩
  obtain ⟨h1, h2, h3, h4, h5⟩ := okG_iff.1 t3
  refine aLoop.rule Nat (fun k => ([(2, imgsA l), (3, .v (.int .i64 slot)), (4, .v (.int .i64 seq)), (5, .v (.int .i64 at_)), (7, .bp 0 0), (8, .bp 1 0), (13, .bp 2 0), (15, .v (.int .i64 one)), (16, .v (.int .i64 two)), (17, .v (.int .i64 bits)), (18, .v (.int .i64 k))], [.box 23 (geoC g), .box 26 (anC a), .box 54 (arrC [one, two, bits])])) (fun k => k ≤ l.length ∧ ∀ x ∈ l.take k, imgOk g x = true) (fun k => l.length - k) 0 ⟨Nat.zero_le _, by simp⟩ ⟨[], trivial, ⟨rfl, rfl, rfl, rfl, rfl, rfl, rfl, rfl, rfl, rfl, rfl, trivial⟩, ⟨rfl, rfl, rfl, trivial⟩, rfl, rfl, rfl⟩ ?_
  rintro k ⟨hk, hI⟩
  conv => whnf
  refine boolI (fun hk1 => ?_) (fun hk1 => ?_) <;> (repeat rw [Int.toNat_natCast] at hk1) <;> conv => whnf
  · refine aDraw.of tys_ok mixed [0, 1, 2, 3, 4, 5, 6] (by kernel_rfl) ?_
    conv => whnf
    refine ⟨by omega, ?_⟩
    conv => whnf
    refine Fn.closed (rimage_br g (l.getD k ⟨0, 0, []⟩) t3) rfl ?_
    rintro _ rfl
    conv => whnf
    refine boolI (fun hi => ?_) (fun hi => ?_) <;> (repeat rw [Int.toNat_natCast] at hi) <;> conv => whnf
    · exact ⟨_, fun _ _ h => h, rfl⟩
    · refine ⟨k + 1, ⟨by omega, fun x hx => ?_⟩, by omega, [], trivial, ⟨rfl, rfl, rfl, rfl, rfl, rfl, rfl, rfl, rfl, rfl, wsucc (by omega), trivial⟩, ⟨rfl, rfl, rfl, trivial⟩, rfl, rfl, rfl⟩
      rw [List.take_succ_eq_append_getElem (by omega), List.mem_append] at hx
      rcases hx with hx | hx
      · exact hI x hx
      · rw [List.mem_singleton.1 hx, ← hi, List.getD_eq_getElem?_getD, List.getElem?_eq_getElem (by omega)]
        rfl
  rw [List.take_of_length_le (by omega)] at hI
  have hw : IntKind.u64.wrap g.sl = g.sl := by rw [IntKind.wrap_u64]; omega
  rw [hw]
  refine And.intro (by omega) ?_
  conv => whnf
  repeat' (refine And.intro (by decide) ?_; conv => whnf)
  have b1 := modU_in (x := slot) (n := g.sl) (by omega) (by omega)
  have b2 := modU_in (x := seq) (n := 1000000) (by decide) (by decide)
  have b4 := anOk_epoch t4
  have him := fun x hx => imgOk_short (hI x hx)
  refine Fn.closed (records_fn (modU seq 1000000) a.epoch l (by omega) (fun x hx => by have := him x hx; omega)) rfl ?_
  rintro _ rfl
  conv => whnf
  have hrl := recsOf_length (modU seq 1000000) a.epoch l
  have hrs : ∀ k, k < l.length + 1 → RecAt g (modU seq 1000000) a.epoch l k ((recsOf (modU seq 1000000) a.epoch l).getD k rc0) := fun k hk => recs_at t3 (by omega) b4 hI (by omega) (by omega) hk
  generalize recsOf (modU seq 1000000) a.epoch l = T at *
  have hw2 : IntKind.u64.wrap ((l.length + 1 : Nat) : Int) = ((l.length + 1 : Nat) : Int) := by rw [IntKind.wrap_u64]; omega
  rw [hrl, hw2]
  refine And.intro (by omega) ?_
  conv => whnf
  have b3 := modU_in (x := at_) (n := ((l.length + 1 : Nat) : Int)) (by omega) (by omega)
  have b3' : 0 ≤ IntKind.i64.wrap ((IntKind.u64.wrap at_).tmod ((l.length + 1 : Nat) : Int)) ∧ IntKind.i64.wrap ((IntKind.u64.wrap at_).tmod ((l.length + 1 : Nat) : Int)) < ((l.length + 1 : Nat) : Int) := b3
  have b5 := modU_in (x := bits) (n := 1000000) (by decide) (by decide)
  have hR := hrs (modU at_ ((l.length + 1 : Nat) : Int)).toNat (by omega)
  have hL0 : okL g 0 (modU slot g.sl) = true := by rw [okL, inB_iff.2 (show 0 ≤ modU slot g.sl ∧ modU slot g.sl ≤ g.sl - 1 by omega)]; rfl
  have hL1 : okL g 1 (modU slot g.sl) = true := by rw [okL, inB_iff.2 (show 0 ≤ modU slot g.sl ∧ modU slot g.sl ≤ g.sl - 1 by omega)]; rfl
  have c0 := cell17_fn g _ 0 (modU slot g.sl) hR.ok hL0
  have c1 := cell17_fn g _ 1 (modU slot g.sl) hR.ok hL1
  have p0 := spoil_fn g ⟨0, cellB g (T.getD (modU at_ ((l.length + 1 : Nat) : Int)).toNat rc0) 0 (modU slot g.sl)⟩ one (modU bits 1000000) (Nat.le_trans (cellB_short hR.ok 0 (modU slot g.sl)) (by decide))
  have p1 := spoil_fn g ⟨0, cellB g (T.getD (modU at_ ((l.length + 1 : Nat) : Int)).toNat rc0) 1 (modU slot g.sl)⟩ two (modU bits 1000000) (Nat.le_trans (cellB_short hR.ok 1 (modU slot g.sl)) (by decide))
  apply aDraw.tree tys_ok mixed (.one 0 (.one 1 (.one 2 (.one 3 (.one 4 (.one 5 (.one 6 (.one 8 (.one 9 (.two 7 (.two 10 (.one 11 (.one 12 (.one 13 (.one 14 (.one 15 (.one 16 .fin)))))) 14 (.one 10 (.one 11 (.one 12 (.one 13 (.one 15 (.one 16 .fin))))))) 14 (.one 7 (.one 10 (.one 11 (.one 12 (.one 13 (.one 15 (.one 16 .fin))))))))))))))))) [20, 21, 106, 107, 108, 109, 110, 111, 112, 113, 114, 115, 116, 117, 118, 119] (by kernel_rfl)
  · conv => whnf
    try (refine And.intro (by omega) ?_; conv => whnf)
    refine And.intro ?_ ?_
    · conv => whnf
      refine Fn.closed (c0) rfl ?_
      rintro _ rfl
      conv => whnf
      refine And.intro ?_ ?_
      · conv => whnf
        refine Fn.closed (p0) rfl ?_
        rintro _ rfl
        conv => whnf
        exact ⟨rfl, rfl⟩
      · conv => whnf
        refine Fn.closed (p0) rfl ?_
        rintro _ rfl
        conv => whnf
        exact ⟨rfl, rfl⟩
    · conv => whnf
      refine Fn.closed (c0) rfl ?_
      rintro _ rfl
      conv => whnf
      refine Fn.closed (p0) rfl ?_
      rintro _ rfl
      conv => whnf
      exact ⟨rfl, rfl⟩
  conv => whnf
  apply aDraw.tree tys_ok mixed (.one 0 (.one 1 (.one 2 (.one 3 (.one 4 (.one 5 (.one 6 (.one 8 (.one 9 (.two 7 (.two 10 (.one 11 (.one 12 (.one 13 (.one 14 (.one 15 (.one 16 .fin)))))) 14 (.one 10 (.one 11 (.one 12 (.one 13 (.one 15 (.one 16 .fin))))))) 14 (.one 7 (.one 10 (.one 11 (.one 12 (.one 13 (.one 15 (.one 16 .fin))))))))))))))))) [22, 23, 120, 121, 122, 123, 124, 125, 126, 127, 128, 129, 130, 131, 132, 133] (by kernel_rfl)
  · conv => whnf
    try (refine And.intro (by omega) ?_; conv => whnf)
    refine And.intro ?_ ?_
    · conv => whnf
      refine Fn.closed (c1) rfl ?_
      rintro _ rfl
      conv => whnf
      refine And.intro ?_ ?_
      · conv => whnf
        refine Fn.closed (p1) rfl ?_
        rintro _ rfl
        conv => whnf
        exact ⟨rfl, rfl⟩
      · conv => whnf
        refine Fn.closed (p1) rfl ?_
        rintro _ rfl
        conv => whnf
        exact ⟨rfl, rfl⟩
    · conv => whnf
      refine Fn.closed (c1) rfl ?_
      rintro _ rfl
      conv => whnf
      refine Fn.closed (p1) rfl ?_
      rintro _ rfl
      conv => whnf
      exact ⟨rfl, rfl⟩
  conv => whnf
  have q0 := spoil_says t3 hR.ok hL0 one (modU bits 1000000)
  have q1 := spoil_says t3 hR.ok hL1 two (modU bits 1000000)
  clear c0 c1 p0 p1
  generalize spoilT ⟨0, cellB g (T.getD (modU at_ ((l.length + 1 : Nat) : Int)).toNat rc0) 0 (modU slot g.sl)⟩ one (modU bits 1000000) = P0 at q0 ⊢
  generalize spoilT ⟨0, cellB g (T.getD (modU at_ ((l.length + 1 : Nat) : Int)).toNat rc0) 1 (modU slot g.sl)⟩ two (modU bits 1000000) = P1 at q1 ⊢
  obtain ⟨X, ok⟩ := P0
  obtain ⟨Y, is⟩ := P1
  simp only at q0 q1
  obtain ⟨q0, n0⟩ := q0
  obtain ⟨q1, n1⟩ := q1
  have hs : inB (modU slot g.sl) 0 (g.sl - 1) = true := inB_iff.2 (by omega)
  have hB : ∀ of_, (of_ = 0 ∨ of_ = ((l.length + 1 : Nat) : Int)) → isOne (T.getD (modU at_ ((l.length + 1 : Nat) : Int)).toNat rc0) a (modU seq 1000000) (modU at_ ((l.length + 1 : Nat) : Int)) of_ g.sl = true := fun of_ ho => by
    have e1 := hR.at_
    have e2 := hR.of_
    exact decide_eq_true ⟨hR.kind, hR.seq, by omega, fun _ => by omega, fun _ => by omega, .inl hR.epoch⟩
  have lk : ∀ of_, (of_ = 0 ∨ of_ = ((l.length + 1 : Nat) : Int)) → _ := fun of_ ho => look_is (g := g) (a := a) (x := X) (y := Y) (slot := modU slot g.sl) (seq := modU seq 1000000) (at_ := modU at_ ((l.length + 1 : Nat) : Int)) (of_ := of_) (left := g.sl) (by omega) (by omega) n0 n1 t3 t4 hs (look_left q0 q1 (hB of_ ho))
  have w1 := rec_same (T.getD (modU at_ ((l.length + 1 : Nat) : Int)).toNat rc0) (Nat.le_trans (saysR_len (says_cell t3 hR.ok hL0)) (Nat.le_trans (cellB_short hR.ok 0 (modU slot g.sl)) (by decide)))
  refine aSeq.go ?_
  conv => whnf
  refine boolI (fun ha => ?_) (fun ha => ?_) <;> (repeat rw [Int.toNat_natCast] at ha) <;> conv => whnf
  · have lk0 := lk 0 (.inl rfl)
    clear lk q0 q1
    cases ok <;> cases is
    · refine Fn.closed (lk0) rfl ?_
      rintro _ rfl
      conv => whnf
      repeat' (first | (refine aSeq.go ?_; conv => whnf) | (refine boolI (fun _ => ?_) (fun _ => ?_) <;> conv => whnf) | (refine Fn.closed (wakes17_fn) rfl ?_; rintro _ rfl; conv => whnf) | (refine And.intro (by first | omega | exact of_decide_eq_true rfl) ?_; conv => whnf))
      exact ⟨_, fun _ _ h => h, rfl⟩
    · refine Fn.closed (lk0) rfl ?_
      rintro _ rfl
      conv => whnf
      repeat' (first | (refine aSeq.go ?_; conv => whnf) | (refine boolI (fun _ => ?_) (fun _ => ?_) <;> conv => whnf) | (refine Fn.closed (wakes17_fn) rfl ?_; rintro _ rfl; conv => whnf) | (refine Fn.closed (w1) rfl ?_; rintro _ rfl; conv => whnf) | (refine And.intro (by first | omega | exact of_decide_eq_true rfl) ?_; conv => whnf))
      refine aDraw.of tys_ok mixed [0, 1, 2, 3, 4, 5, 6, 7, 8, 9, 10, 11, 12, 13, 14, 15, 16, 17, 18] (by kernel_rfl) ?_
      conv => whnf
      refine ⟨by omega, ?_⟩
      conv => whnf
      refine Fn.closed (w1) rfl ?_
      rintro _ rfl
      conv => whnf
      have z := ints_same [0] (by decide)
      refine ACalls.shut (z).go ?_
      conv => whnf
      repeat' (refine And.intro (by first | rfl | omega | simp) ?_; conv => whnf)
      refine ACalls.sub _ ?_ (Fn.closed (z) rfl ?_)
      · repeat' (first | exact trivial | exact fun _ _ h => h | exact nil_sl _ _ | exact one_sub | refine And.intro ?_ ?_ | refine ag_sub ?_)
      rintro _ rfl
      conv => whnf
      refine Fn.closed (wakes17_fn) rfl ?_
      rintro _ rfl
      conv => whnf
      exact ⟨_, fun _ _ h => h, rfl⟩
    · refine Fn.closed (lk0) rfl ?_
      rintro _ rfl
      conv => whnf
      repeat' (first | (refine aSeq.go ?_; conv => whnf) | (refine boolI (fun _ => ?_) (fun _ => ?_) <;> conv => whnf) | (refine Fn.closed (wakes17_fn) rfl ?_; rintro _ rfl; conv => whnf) | (refine Fn.closed (w1) rfl ?_; rintro _ rfl; conv => whnf) | (refine And.intro (by first | omega | exact of_decide_eq_true rfl) ?_; conv => whnf))
      refine aDraw.of tys_ok mixed [0, 1, 2, 3, 4, 5, 6, 7, 8, 9, 10, 11, 12, 13, 14, 15, 16, 17, 18] (by kernel_rfl) ?_
      conv => whnf
      refine ⟨by omega, ?_⟩
      conv => whnf
      refine Fn.closed (w1) rfl ?_
      rintro _ rfl
      conv => whnf
      have z := ints_same [1] (by decide)
      refine ACalls.shut (z).go ?_
      conv => whnf
      repeat' (refine And.intro (by first | rfl | omega | simp) ?_; conv => whnf)
      refine ACalls.sub _ ?_ (Fn.closed (z) rfl ?_)
      · repeat' (first | exact trivial | exact fun _ _ h => h | exact nil_sl _ _ | exact one_sub | refine And.intro ?_ ?_ | refine ag_sub ?_)
      rintro _ rfl
      conv => whnf
      refine Fn.closed (wakes17_fn) rfl ?_
      rintro _ rfl
      conv => whnf
      exact ⟨_, fun _ _ h => h, rfl⟩
    · refine Fn.closed (lk0) rfl ?_
      rintro _ rfl
      conv => whnf
      repeat' (first | (refine aSeq.go ?_; conv => whnf) | (refine boolI (fun _ => ?_) (fun _ => ?_) <;> conv => whnf) | (refine Fn.closed (wakes17_fn) rfl ?_; rintro _ rfl; conv => whnf) | (refine Fn.closed (w1) rfl ?_; rintro _ rfl; conv => whnf) | (refine And.intro (by first | omega | exact of_decide_eq_true rfl) ?_; conv => whnf))
      refine aDraw.of tys_ok mixed [0, 1, 2, 3, 4, 5, 6, 7, 8, 9, 10, 11, 12, 13, 14, 15, 16, 17, 18] (by kernel_rfl) ?_
      conv => whnf
      refine ⟨by omega, ?_⟩
      conv => whnf
      refine Fn.closed (w1) rfl ?_
      rintro _ rfl
      conv => whnf
      have z := ints_same [] (by decide)
      refine ACalls.sub _ ?_ (Fn.closed (z) rfl ?_)
      · repeat' (first | exact trivial | exact fun _ _ h => h | exact nil_sl _ _ | refine And.intro ?_ ?_ | refine ag_sub ?_)
      rintro _ rfl
      conv => whnf
      refine Fn.closed (wakes17_fn) rfl ?_
      rintro _ rfl
      conv => whnf
      exact ⟨_, fun _ _ h => h, rfl⟩
  · have lk0 := lk ((l.length + 1 : Nat) : Int) (.inr rfl)
    clear lk q0 q1
    cases ok <;> cases is
    · refine Fn.closed (lk0) rfl ?_
      rintro _ rfl
      conv => whnf
      repeat' (first | (refine aSeq.go ?_; conv => whnf) | (refine boolI (fun _ => ?_) (fun _ => ?_) <;> conv => whnf) | (refine Fn.closed (wakes17_fn) rfl ?_; rintro _ rfl; conv => whnf) | (refine And.intro (by first | omega | exact of_decide_eq_true rfl) ?_; conv => whnf))
      exact ⟨_, fun _ _ h => h, rfl⟩
    · refine Fn.closed (lk0) rfl ?_
      rintro _ rfl
      conv => whnf
      repeat' (first | (refine aSeq.go ?_; conv => whnf) | (refine boolI (fun _ => ?_) (fun _ => ?_) <;> conv => whnf) | (refine Fn.closed (wakes17_fn) rfl ?_; rintro _ rfl; conv => whnf) | (refine Fn.closed (w1) rfl ?_; rintro _ rfl; conv => whnf) | (refine And.intro (by first | omega | exact of_decide_eq_true rfl) ?_; conv => whnf))
      refine aDraw.of tys_ok mixed [0, 1, 2, 3, 4, 5, 6, 7, 8, 9, 10, 11, 12, 13, 14, 15, 16, 17, 18] (by kernel_rfl) ?_
      conv => whnf
      refine ⟨by omega, ?_⟩
      conv => whnf
      refine Fn.closed (w1) rfl ?_
      rintro _ rfl
      conv => whnf
      have z := ints_same [0] (by decide)
      refine ACalls.shut (z).go ?_
      conv => whnf
      repeat' (refine And.intro (by first | rfl | omega | simp) ?_; conv => whnf)
      refine ACalls.sub _ ?_ (Fn.closed (z) rfl ?_)
      · repeat' (first | exact trivial | exact fun _ _ h => h | exact nil_sl _ _ | exact one_sub | refine And.intro ?_ ?_ | refine ag_sub ?_)
      rintro _ rfl
      conv => whnf
      refine Fn.closed (wakes17_fn) rfl ?_
      rintro _ rfl
      conv => whnf
      exact ⟨_, fun _ _ h => h, rfl⟩
    · refine Fn.closed (lk0) rfl ?_
      rintro _ rfl
      conv => whnf
      repeat' (first | (refine aSeq.go ?_; conv => whnf) | (refine boolI (fun _ => ?_) (fun _ => ?_) <;> conv => whnf) | (refine Fn.closed (wakes17_fn) rfl ?_; rintro _ rfl; conv => whnf) | (refine Fn.closed (w1) rfl ?_; rintro _ rfl; conv => whnf) | (refine And.intro (by first | omega | exact of_decide_eq_true rfl) ?_; conv => whnf))
      refine aDraw.of tys_ok mixed [0, 1, 2, 3, 4, 5, 6, 7, 8, 9, 10, 11, 12, 13, 14, 15, 16, 17, 18] (by kernel_rfl) ?_
      conv => whnf
      refine ⟨by omega, ?_⟩
      conv => whnf
      refine Fn.closed (w1) rfl ?_
      rintro _ rfl
      conv => whnf
      have z := ints_same [1] (by decide)
      refine ACalls.shut (z).go ?_
      conv => whnf
      repeat' (refine And.intro (by first | rfl | omega | simp) ?_; conv => whnf)
      refine ACalls.sub _ ?_ (Fn.closed (z) rfl ?_)
      · repeat' (first | exact trivial | exact fun _ _ h => h | exact nil_sl _ _ | exact one_sub | refine And.intro ?_ ?_ | refine ag_sub ?_)
      rintro _ rfl
      conv => whnf
      refine Fn.closed (wakes17_fn) rfl ?_
      rintro _ rfl
      conv => whnf
      exact ⟨_, fun _ _ h => h, rfl⟩
    · refine Fn.closed (lk0) rfl ?_
      rintro _ rfl
      conv => whnf
      repeat' (first | (refine aSeq.go ?_; conv => whnf) | (refine boolI (fun _ => ?_) (fun _ => ?_) <;> conv => whnf) | (refine Fn.closed (wakes17_fn) rfl ?_; rintro _ rfl; conv => whnf) | (refine Fn.closed (w1) rfl ?_; rintro _ rfl; conv => whnf) | (refine And.intro (by first | omega | exact of_decide_eq_true rfl) ?_; conv => whnf))
      refine aDraw.of tys_ok mixed [0, 1, 2, 3, 4, 5, 6, 7, 8, 9, 10, 11, 12, 13, 14, 15, 16, 17, 18] (by kernel_rfl) ?_
      conv => whnf
      refine ⟨by omega, ?_⟩
      conv => whnf
      refine Fn.closed (w1) rfl ?_
      rintro _ rfl
      conv => whnf
      have z := ints_same [] (by decide)
      refine ACalls.sub _ ?_ (Fn.closed (z) rfl ?_)
      · repeat' (first | exact trivial | exact fun _ _ h => h | exact nil_sl _ _ | refine And.intro ?_ ?_ | refine ag_sub ?_)
      rintro _ rfl
      conv => whnf
      refine Fn.closed (wakes17_fn) rfl ?_
      rintro _ rfl
      conv => whnf
      exact ⟨_, fun _ _ h => h, rfl⟩
end Go.Proofs.YteecmgonbdbhdaaDoor.A
end
