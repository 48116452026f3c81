/-
The law PairOthers.
-/
import Derived.Test.YteecmgonbdbhdaaDoorComP5
namespace Go.Proofs.YteecmgonbdbhdaaDoor.A
open Go.RowKit

theorem is_v (r : Rc) (a : An) (seq at_ of_ left : Int) (b : Bool) (h : isOne r a seq at_ of_ left = b) : Fn Tryd.prog 16 [.ag (rcC r), .ag (anC a), .v (.int .i64 seq), .v (.int .i64 at_), .v (.int .i64 of_), .v (.int .i64 left)] fun x => x = .v (.bool b) := by
  have := is_fn r a seq at_ of_ left
  rw [h] at this
  exact this
def imgZ : Img := ⟨0, 0, []⟩
theorem others_fn (a : An) (seq at_ of_ how n : Int) : Fn Tryd.prog 6 [.ag (anC a), .v (.int .i64 seq), .v (.int .i64 at_), .v (.int .i64 of_), .v (.int .i64 how), .v (.int .i64 n)] fun r => r = .v (.bool true) := by
  have b1 := modU_in (x := seq) (n := 1000) (by decide) (by decide)
  have b2 := modU_in (x := at_) (n := 10) (by decide) (by decide)
  have b3 := modU_in (x := n) (n := 10) (by decide) (by decide)
  have b4 := modU_in (x := of_) (n := 10) (by decide) (by decide)
  obtain ⟨Z, hZ⟩ : ∃ Z, Z = IntKind.i64.wrap (IntKind.i64.wrap (modU at_ 10 + 1) + modU of_ 10) := ⟨_, rfl⟩
  have eZ : Z = modU at_ 10 + 1 + modU of_ 10 := by rw [hZ, wi (n := modU at_ 10 + 1) (by omega), wi (by omega)]
  obtain ⟨N, hN⟩ : ∃ N, N = IntKind.i64.wrap (1 + modU n 10) := ⟨_, rfl⟩
  have eN : N = 1 + modU n 10 := by rw [hN, wi (by omega)]
  have w1 : IntKind.i64.wrap (modU seq 1000 + N) = modU seq 1000 + N := wi (by omega)
  have w2 : IntKind.i64.wrap (modU at_ 10 + N) = modU at_ 10 + N := wi (by omega)
  have w3 : IntKind.i64.wrap (Z + N) = Z + N := wi (by omega)
  have w4 : IntKind.i64.wrap (Z - 1) = Z - 1 := wi (by omega)
  have y1 := is_v ⟨1, modU seq 1000, a.epoch, modU at_ 10, Z, imgZ⟩ a (modU seq 1000) (modU at_ 10) Z 0 true (decide_eq_true ⟨show (1 : Int) ≠ 0 by decide, rfl, rfl, fun h => by omega, fun _ => rfl, .inl rfl⟩)
  have y2 := is_v ⟨1, modU seq 1000, a.epoch, modU at_ 10, Z, imgZ⟩ a (modU seq 1000) (modU at_ 10) 0 Z true (decide_eq_true ⟨show (1 : Int) ≠ 0 by decide, rfl, rfl, fun _ => Int.le_refl _, fun h => absurd rfl h, .inl rfl⟩)
  have n1 := is_v ⟨1, modU seq 1000, a.epoch, modU at_ 10, Z, imgZ⟩ a (modU seq 1000 + N) (modU at_ 10) Z 0 false (decide_eq_false (by simp only; omega))
  have n2 := is_v ⟨1, modU seq 1000, a.epoch, modU at_ 10, Z, imgZ⟩ a (modU seq 1000) (modU at_ 10 + N) Z 0 false (decide_eq_false (by simp only; omega))
  have n3 := is_v ⟨1, modU seq 1000, a.epoch, modU at_ 10, Z, imgZ⟩ a (modU seq 1000) (modU at_ 10) (Z + N) 0 false (decide_eq_false (by simp only; omega))
  have n4 := is_v ⟨1, modU seq 1000, a.epoch, modU at_ 10, Z, imgZ⟩ a (modU seq 1000) (modU at_ 10) 0 (Z - 1) false (decide_eq_false fun h => by have := h.2.2.2.1 rfl; simp only at this; omega)
  have n5 := is_v ⟨0, modU seq 1000, a.epoch, modU at_ 10, Z, imgZ⟩ a (modU seq 1000) (modU at_ 10) Z 0 false (decide_eq_false fun h => h.1 rfl)
  rw [← w1] at n1
  rw [← w2] at n2
  rw [← w3] at n3
  rw [← w4] at n4
  subst hN hZ
  refine Fn.of tys_ok Tryd.func6 rfl rfl (Nat.le_of_ble_eq_true rfl) ?_
  conv => whnf
  refine Fn.closed (heavyA_fn a) rfl ?_
  rintro _ rfl
  conv => whnf
  refine boolI (fun t1 => ?_) (fun t1 => ?_) <;> (repeat rw [Int.toNat_natCast] at t1) <;> conv => whnf
  · exact ⟨_, fun _ _ h => h, rfl⟩
  repeat' (refine And.intro (by decide) ?_; conv => whnf)
  refine ACalls.sub _ ?_ (Fn.closed (y1) rfl ?_)
  · repeat' (first | exact trivial | exact fun _ _ h => h | exact nil_sl _ _ | refine And.intro ?_ ?_ | refine ag_sub ?_)
  rintro _ rfl
  conv => whnf
  refine ACalls.sub _ ?_ (Fn.closed (y2) rfl ?_)
  · repeat' (first | exact trivial | exact fun _ _ h => h | exact nil_sl _ _ | refine And.intro ?_ ?_ | refine ag_sub ?_)
  rintro _ rfl
  conv => whnf
  refine And.intro (by decide) ?_
  conv => whnf
  repeat' (first | (refine boolI (fun _ => ?_) (fun _ => ?_) <;> conv => whnf) | (refine aSeq.go ?_; conv => whnf))
  · refine ACalls.sub _ ?_ (Fn.closed (n1) rfl ?_)
    · repeat' (first | exact trivial | exact fun _ _ h => h | exact nil_sl _ _ | refine And.intro ?_ ?_ | refine ag_sub ?_)
    rintro _ rfl
    conv => whnf
    refine Fn.closed (wakes17_fn) rfl ?_
    rintro _ rfl
    conv => whnf
    exact ⟨_, fun _ _ h => h, rfl⟩
  · refine ACalls.sub _ ?_ (Fn.closed (n2) rfl ?_)
    · repeat' (first | exact trivial | exact fun _ _ h => h | exact nil_sl _ _ | refine And.intro ?_ ?_ | refine ag_sub ?_)
    rintro _ rfl
    conv => whnf
    refine Fn.closed (wakes17_fn) rfl ?_
    rintro _ rfl
    conv => whnf
    exact ⟨_, fun _ _ h => h, rfl⟩
  · refine ACalls.sub _ ?_ (Fn.closed (n3) rfl ?_)
    · repeat' (first | exact trivial | exact fun _ _ h => h | exact nil_sl _ _ | refine And.intro ?_ ?_ | refine ag_sub ?_)
    rintro _ rfl
    conv => whnf
    refine Fn.closed (wakes17_fn) rfl ?_
    rintro _ rfl
    conv => whnf
    exact ⟨_, fun _ _ h => h, rfl⟩
  · refine ACalls.sub _ ?_ (Fn.closed (n4) rfl ?_)
    · repeat' (first | exact trivial | exact fun _ _ h => h | exact nil_sl _ _ | refine And.intro ?_ ?_ | refine ag_sub ?_)
    rintro _ rfl
    conv => whnf
    refine Fn.closed (wakes17_fn) rfl ?_
    rintro _ rfl
    conv => whnf
    exact ⟨_, fun _ _ h => h, rfl⟩
  · refine ACalls.sub _ ?_ (Fn.closed (n5) rfl ?_)
    · repeat' (first | exact trivial | exact fun _ _ h => h | exact nil_sl _ _ | refine And.intro ?_ ?_ | refine ag_sub ?_)
    rintro _ rfl
    conv => whnf
    refine Fn.closed (wakes17_fn) rfl ?_
    rintro _ rfl
    conv => whnf
    exact ⟨_, fun _ _ h => h, rfl⟩
end Go.Proofs.YteecmgonbdbhdaaDoor.A
