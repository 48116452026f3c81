/-
Several texts in one.
-/
import Derived.Test.YteecmgonbdbhdaaDoorPPSMendP6
import Derived.Test.YteecmgonbdbhdaaDoorComP4
import Derived.Test.YteecmgonbdbhdaaDoorComP1
import Derived.Test.YteecmgonbdbhdaaDoorComP3

/-
Package scan: a transaction, the readings being the caller's own rows.
-/
section
namespace Go.Proofs.YteecmgonbdbhdaaDoor.A
open Go.RowKit

theorem lt03 {m : Nat} (h : Nat.ble 4 m = true) : ∀ z ∈ [0, 1, 2, 3], z < m := fun z hz => by
  have := Nat.le_of_ble_eq_true h
  simp at hz
  omega
set_option maxRecDepth 100000 in
theorem txnO_fn18 (g : Geo) (a : An) (x y : List Gt) (pos seq left : Int) (n : Nat) (W : List Wr) (hn : n = W.length) (hW : W.length ≤ 1000) (hg : okG g = true) (ha : anOk g a = true) (hl : a.label.size ≤ 1000000) (hh : a.homes.length ≤ 1000000) (hx : x.length = g.sl) (hy : y.length = g.sl) (hxb : ∀ z ∈ x, z.bytes.length ≤ 100000) (hyb : ∀ z ∈ y, z.bytes.length ≤ 100000) (hp : 0 ≤ pos ∧ pos < g.sl) (hs : 0 ≤ seq ∧ seq ≤ 4294967295) (hlf : left ≤ g.sl) :
    ACalls Tryd.prog false 60 [.bp 0 0] [.box 121 (scX g a (.ow 2 x.length) (.ow 3 y.length) pos seq left (.ow 1 n)), .row 75 2 (W.map wrC), .row 30 2 (x.map gotC), .row 30 2 (y.map gotC)]
      fun r H => r = .tp [.ag (txC (if (txnM g a x y pos seq left).1 = 1 then ⟨seq, pos, (txnM g a x y pos seq left).2.1, (txnM g a x y pos seq left).2.2.1⟩ else ⟨0, 0, 0, []⟩)), .v (.int .i64 (txnM g a x y pos seq left).1)] ∧
        H = (if (txnM g a x y pos seq left).1 = 1 then [.box 121 (scX g a (.ow 2 x.length) (.ow 3 y.length) ((pos + (txnM g a x y pos seq left).2.1).tmod g.sl) (seq + 1) (left - (txnM g a x y pos seq left).2.1) (.ow 1 (W ++ (txnM g a x y pos seq left).2.2.2).length)), .row 75 2 ((W ++ (txnM g a x y pos seq left).2.2.2).map wrC), .row 30 2 (x.map gotC), .row 30 2 (y.map gotC)] else [.box 121 (scX g a (.ow 2 x.length) (.ow 3 y.length) pos seq left (.ow 1 n)), .row 75 2 (W.map wrC), .row 30 2 (x.map gotC), .row 30 2 (y.map gotC)]) := by
  obtain ⟨h1, h2, h3, h4, h5⟩ := okG_iff.1 hg
  have rc := fun at_ of_ hat => recordO_fn g a x y pos seq left at_ of_ n W hg ha hl hh hx hy hxb hyb hp hat
  have rf := fun at_ of_ hat => recM_facts (a := a) (x := x) (y := y) (seq := seq) (left := left) (of_ := of_) (at_ := at_) hg hp hat
  have rc0 := rc 0 0 (by omega)
  have rf0 := rf 0 0 (by omega)
  unfold txnM
  simp only
  generalize recM g a x y pos seq left 0 0 = q0 at rc0 rf0 ⊢
  obtain ⟨r0, how0, ws0⟩ := q0
  simp only at rc0 rf0 ⊢
  rcases rf0 with ⟨rfl, ⟨k1, k2, k3⟩, k4⟩ | ⟨k1, rfl, rfl⟩
  · have hN := one_of k1 k3
    have hw1 : IntKind.i64.wrap (pos + r0.of_) = pos + r0.of_ := by rw [IntKind.wrap_i64]; omega
    have hw2 : IntKind.i64.wrap (seq + 1) = seq + 1 := by rw [IntKind.wrap_i64]; omega
    have hw3 : IntKind.i64.wrap (left - r0.of_) = left - r0.of_ := by have := hN.2.2.2.2.1 rfl; rw [IntKind.wrap_i64]; omega
    rw [if_neg (show ¬ (1 : Int) ≠ 1 by decide)]
    generalize hG : gatherM (fun k => recM g a x y pos seq left k r0.of_) (r0.of_ - 1).toNat 1 r0 [] ws0 = G
    refine ACalls.of tys_ok Tryd.func60 rfl rfl (by show 1 ≤ _; decide) ?_
    conv => whnf
    refine ACalls.frame [0, 1, 2, 3] rc0 rfl rfl rfl rfl (by decide) (lt03 rfl) ⟨rfl, rfl, rfl, rfl, trivial⟩ ?_
    rintro _ _ ⟨rfl, rfl⟩
    conv => whnf
    refine aDraw.seq tys_ok mixed (by kernel_rfl) ?_
    conv => whnf
    refine aLoop.rule (Nat × Rc × List Img × List Wr) (fun z => ([(0, .bp 0 0), (2, .bp 4 0), (3, .v (.int .i64 1)), (4, .bp 8 0), (5, .ow 7 z.2.2.2.length), (6, .v (.int .i64 z.1))], [.box 121 (scX g a (.ow 2 x.length) (.ow 3 y.length) pos seq left (.ow 1 n)), .row 75 2 (W.map wrC), .row 30 2 (x.map gotC), .row 30 2 (y.map gotC), .box 84 [.v (.int .i64 seq), .v (.int .i64 pos), .v (.int .i64 r0.of_), .ow 9 z.2.2.1.length], .dead, .dead, .row 75 2 (z.2.2.2.map wrC), .box 34 (rcC z.2.1), .row 32 3 (z.2.2.1.map imgC)]))
      (fun z => (1 ≤ z.1 ∧ z.1 ≤ r0.of_) ∧ (okR g z.2.1 = true ∧ z.2.1.img.bytes.length ≤ 59) ∧ (z.2.2.1.length ≤ z.1 ∧ z.2.2.2.length ≤ z.1) ∧ gatherM (fun k => recM g a x y pos seq left k r0.of_) (r0.of_ - z.1).toNat z.1 z.2.1 z.2.2.1 z.2.2.2 = G)
      (fun z => (r0.of_ - z.1).toNat) (1, r0, [], ws0) ⟨⟨Nat.le_refl 1, show ((1 : Nat) : Int) ≤ r0.of_ by omega⟩, ⟨k1, k2⟩, ⟨Nat.zero_le _, k4⟩, hG⟩ ⟨[(1004003, 32, 3)], ⟨rfl, rfl, trivial⟩, ⟨rfl, rfl, rfl, rfl, rfl, rfl, trivial⟩, ⟨rfl, rfl, rfl, rfl, rfl, rfl, rfl, rfl, trivial⟩, rfl, rfl, rfl⟩ ?_
    rintro ⟨k, r, im, w⟩ ⟨⟨b1, b2⟩, ⟨b3, b4⟩, ⟨b5, b6⟩, b7⟩
    dsimp only at b1 b2 b3 b4 b5 b6 b7 ⊢
    conv => whnf
    refine aSeq.go ?_
    conv => whnf
    refine aSeq.cut (List Img) (fun im2 => ([(0, .bp 0 0), (2, .bp 4 0), (3, .v (.int .i64 1)), (4, .bp 8 0), (5, .ow 7 w.length), (6, .v (.int .i64 k))], [.box 121 (scX g a (.ow 2 x.length) (.ow 3 y.length) pos seq left (.ow 1 n)), .row 75 2 (W.map wrC), .row 30 2 (x.map gotC), .row 30 2 (y.map gotC), .box 84 [.v (.int .i64 seq), .v (.int .i64 pos), .v (.int .i64 r0.of_), .ow 9 im2.length], .dead, .dead, .row 75 2 (w.map wrC), .box 34 (rcC r), .row 32 3 (im2.map imgC)])) (fun im2 => im2 = if r.kind = 1 then im ++ [r.img] else im) ?_ ?_
    · conv => whnf
      refine boolI (fun hk => ?_) (fun hk => ?_) <;> (repeat rw [Int.toNat_natCast] at hk) <;> conv => whnf
      · repeat' (first | (refine aSeq.go ?_; conv => whnf) | (refine boolI (fun _ => ?_) (fun _ => ?_) <;> conv => whnf) | (refine Fn.closed (clone_br r.img.bytes (by omega)) rfl ?_; rintro _ rfl; conv => whnf) | (refine And.intro (by first | omega | exact of_decide_eq_true rfl) ?_; conv => whnf) | fail)
        refine And.intro ⟨by simp, by omega⟩ ?_
        conv => whnf
        exact ⟨im ++ [r.img], by rw [if_pos hk], [], trivial, ⟨rfl, rfl, rfl, rfl, rfl, rfl, trivial⟩, ⟨rfl, rfl, rfl, rfl, by rw [List.length_append]; rfl, rfl, rfl, by rw [List.map_append]; rfl, trivial⟩, rfl, rfl, rfl⟩
      · exact ⟨im, by rw [if_neg hk], [], trivial, ⟨rfl, rfl, rfl, rfl, rfl, rfl, trivial⟩, ⟨rfl, rfl, rfl, rfl, rfl, rfl, rfl, rfl, trivial⟩, rfl, rfl, rfl⟩
    · rintro im2 him
      have hl2 : im2.length ≤ k + 1 := by
        rw [him]
        split
        · rw [List.length_append]
          simp only [List.length_cons, List.length_nil]
          omega
        · omega
      conv => whnf
      refine boolI (fun hkN => ?_) (fun hkN => ?_) <;> (repeat rw [Int.toNat_natCast] at hkN) <;> conv => whnf
      · refine And.intro (by rw [List.length_map]) ?_
        conv => whnf
        refine And.intro ⟨by rw [List.length_map]; exact hn, by omega⟩ ?_
        conv => whnf
        apply aDraw.treeM 235929600 tys_ok mixed (.one 0 (.one 1 (.one 2 (.one 3 (.one 4 (.one 5 (.one 6 (.one 7 (.one 8 (.one 9 (.one 10 (.one 11 (.one 12 (.one 13 (.one 14 (.one 15 (.one 16 (.one 17 (.one 18 (.one 19 (.one 21 (.one 22 (.one 23 (.one 24 (.one 28 (.one 29 (.three 20 (.two 25 (.two 26 (.two 27 (.one 30 (.one 31 (.one 32 (.one 33 (.one 34 (.one 35 (.one 36 .fin))))))) 30 (.one 31 (.one 32 (.two 27 (.one 33 (.one 34 (.one 35 (.one 36 .fin)))) 33 (.one 27 (.one 34 (.one 35 (.one 36 .fin)))))))) 30 (.one 31 (.one 32 (.two 26 (.two 27 (.one 33 (.one 34 (.one 35 (.one 36 .fin)))) 33 (.one 27 (.one 34 (.one 35 (.one 36 .fin))))) 33 (.one 26 (.one 27 (.one 34 (.one 35 (.one 36 .fin))))))))) 30 (.one 31 (.one 32 (.two 25 (.two 26 (.two 27 (.one 33 (.one 34 (.one 35 (.one 36 .fin)))) 33 (.one 27 (.one 34 (.one 35 (.one 36 .fin))))) 33 (.one 26 (.one 27 (.one 34 (.one 35 (.one 36 .fin)))))) 33 (.one 25 (.one 26 (.one 27 (.one 34 (.one 35 (.one 36 .fin)))))))))) 25 (.three 20 (.two 26 (.two 27 (.one 30 (.one 31 (.one 32 (.one 33 (.one 34 (.one 35 (.one 36 .fin))))))) 30 (.one 31 (.one 32 (.two 27 (.one 33 (.one 34 (.one 35 (.one 36 .fin)))) 33 (.one 27 (.one 34 (.one 35 (.one 36 .fin)))))))) 30 (.one 31 (.one 32 (.two 26 (.two 27 (.one 33 (.one 34 (.one 35 (.one 36 .fin)))) 33 (.one 27 (.one 34 (.one 35 (.one 36 .fin))))) 33 (.one 26 (.one 27 (.one 34 (.one 35 (.one 36 .fin))))))))) 26 (.three 20 (.two 27 (.one 30 (.one 31 (.one 32 (.one 33 (.one 34 (.one 35 (.one 36 .fin))))))) 30 (.one 31 (.one 32 (.two 27 (.one 33 (.one 34 (.one 35 (.one 36 .fin)))) 33 (.one 27 (.one 34 (.one 35 (.one 36 .fin)))))))) 27 (.two 20 (.one 30 (.one 31 (.one 32 (.one 33 (.one 34 (.one 35 (.one 36 .fin))))))) 30 (.one 20 (.one 31 (.one 32 (.one 33 (.one 34 (.one 35 (.one 36 .fin)))))))) 30 (.two 20 (.one 31 (.one 32 (.two 27 (.one 33 (.one 34 (.one 35 (.one 36 .fin)))) 33 (.one 27 (.one 34 (.one 35 (.one 36 .fin))))))) 27 (.one 20 (.one 31 (.one 32 (.one 33 (.one 34 (.one 35 (.one 36 .fin))))))))) 30 (.two 20 (.one 31 (.one 32 (.two 26 (.two 27 (.one 33 (.one 34 (.one 35 (.one 36 .fin)))) 33 (.one 27 (.one 34 (.one 35 (.one 36 .fin))))) 33 (.one 26 (.one 27 (.one 34 (.one 35 (.one 36 .fin)))))))) 26 (.two 20 (.one 31 (.one 32 (.two 27 (.one 33 (.one 34 (.one 35 (.one 36 .fin)))) 33 (.one 27 (.one 34 (.one 35 (.one 36 .fin))))))) 27 (.one 20 (.one 31 (.one 32 (.one 33 (.one 34 (.one 35 (.one 36 .fin)))))))))) 30 (.two 20 (.one 31 (.one 32 (.two 25 (.two 26 (.two 27 (.one 33 (.one 34 (.one 35 (.one 36 .fin)))) 33 (.one 27 (.one 34 (.one 35 (.one 36 .fin))))) 33 (.one 26 (.one 27 (.one 34 (.one 35 (.one 36 .fin)))))) 33 (.one 25 (.one 26 (.one 27 (.one 34 (.one 35 (.one 36 .fin))))))))) 25 (.two 20 (.one 31 (.one 32 (.two 26 (.two 27 (.one 33 (.one 34 (.one 35 (.one 36 .fin)))) 33 (.one 27 (.one 34 (.one 35 (.one 36 .fin))))) 33 (.one 26 (.one 27 (.one 34 (.one 35 (.one 36 .fin)))))))) 26 (.two 20 (.one 31 (.one 32 (.two 27 (.one 33 (.one 34 (.one 35 (.one 36 .fin)))) 33 (.one 27 (.one 34 (.one 35 (.one 36 .fin))))))) 27 (.one 20 (.one 31 (.one 32 (.one 33 (.one 34 (.one 35 (.one 36 .fin))))))))))))))))))))))))))))))))))))) [76, 77, 78, 79, 80, 81, 82, 83, 84, 85, 86, 87, 88, 89, 90, 91, 92, 93, 94, 95, 96, 97, 98, 99, 100, 101, 102, 103, 104, 105, 106, 107, 108, 109] (by kernel_rfl)
        · conv => whnf
          refine And.intro (by omega) ?_
          conv => whnf
          refine And.intro ?_ (And.intro ?_ ?_)
          · conv => whnf
            refine And.intro ?_ ?_
            · conv => whnf
              refine And.intro ?_ ?_
              · conv => whnf
                refine And.intro ?_ ?_
                · conv => whnf
                  exact ⟨rfl, rfl⟩
                · conv => whnf
                  refine And.intro ?_ ?_
                  · conv => whnf
                    exact ⟨rfl, rfl⟩
                  · conv => whnf
                    exact ⟨rfl, rfl⟩
              · conv => whnf
                refine And.intro ?_ ?_
                · conv => whnf
                  refine And.intro ?_ ?_
                  · conv => whnf
                    exact ⟨rfl, rfl⟩
                  · conv => whnf
                    exact ⟨rfl, rfl⟩
                · conv => whnf
                  exact ⟨rfl, rfl⟩
            · conv => whnf
              refine And.intro ?_ ?_
              · conv => whnf
                refine And.intro ?_ ?_
                · conv => whnf
                  refine And.intro ?_ ?_
                  · conv => whnf
                    exact ⟨rfl, rfl⟩
                  · conv => whnf
                    exact ⟨rfl, rfl⟩
                · conv => whnf
                  exact ⟨rfl, rfl⟩
              · conv => whnf
                exact ⟨rfl, rfl⟩
          · conv => whnf
            refine And.intro ?_ (And.intro ?_ ?_)
            · conv => whnf
              refine And.intro ?_ ?_
              · conv => whnf
                refine And.intro ?_ ?_
                · conv => whnf
                  exact ⟨rfl, rfl⟩
                · conv => whnf
                  refine And.intro ?_ ?_
                  · conv => whnf
                    exact ⟨rfl, rfl⟩
                  · conv => whnf
                    exact ⟨rfl, rfl⟩
              · conv => whnf
                refine And.intro ?_ ?_
                · conv => whnf
                  refine And.intro ?_ ?_
                  · conv => whnf
                    exact ⟨rfl, rfl⟩
                  · conv => whnf
                    exact ⟨rfl, rfl⟩
                · conv => whnf
                  exact ⟨rfl, rfl⟩
            · conv => whnf
              refine And.intro ?_ (And.intro ?_ ?_)
              · conv => whnf
                refine And.intro ?_ ?_
                · conv => whnf
                  exact ⟨rfl, rfl⟩
                · conv => whnf
                  refine And.intro ?_ ?_
                  · conv => whnf
                    exact ⟨rfl, rfl⟩
                  · conv => whnf
                    exact ⟨rfl, rfl⟩
              · conv => whnf
                refine And.intro ?_ ?_
                · conv => whnf
                  exact ⟨rfl, rfl⟩
                · conv => whnf
                  exact ⟨rfl, rfl⟩
              · conv => whnf
                refine And.intro ?_ ?_
                · conv => whnf
                  refine And.intro ?_ ?_
                  · conv => whnf
                    exact ⟨rfl, rfl⟩
                  · conv => whnf
                    exact ⟨rfl, rfl⟩
                · conv => whnf
                  exact ⟨rfl, rfl⟩
            · conv => whnf
              refine And.intro ?_ ?_
              · conv => whnf
                refine And.intro ?_ ?_
                · conv => whnf
                  refine And.intro ?_ ?_
                  · conv => whnf
                    exact ⟨rfl, rfl⟩
                  · conv => whnf
                    exact ⟨rfl, rfl⟩
                · conv => whnf
                  exact ⟨rfl, rfl⟩
              · conv => whnf
                refine And.intro ?_ ?_
                · conv => whnf
                  refine And.intro ?_ ?_
                  · conv => whnf
                    exact ⟨rfl, rfl⟩
                  · conv => whnf
                    exact ⟨rfl, rfl⟩
                · conv => whnf
                  exact ⟨rfl, rfl⟩
          · conv => whnf
            refine And.intro ?_ ?_
            · conv => whnf
              refine And.intro ?_ ?_
              · conv => whnf
                refine And.intro ?_ ?_
                · conv => whnf
                  refine And.intro ?_ ?_
                  · conv => whnf
                    exact ⟨rfl, rfl⟩
                  · conv => whnf
                    exact ⟨rfl, rfl⟩
                · conv => whnf
                  exact ⟨rfl, rfl⟩
              · conv => whnf
                exact ⟨rfl, rfl⟩
            · conv => whnf
              refine And.intro ?_ ?_
              · conv => whnf
                refine And.intro ?_ ?_
                · conv => whnf
                  refine And.intro ?_ ?_
                  · conv => whnf
                    exact ⟨rfl, rfl⟩
                  · conv => whnf
                    exact ⟨rfl, rfl⟩
                · conv => whnf
                  exact ⟨rfl, rfl⟩
              · conv => whnf
                refine And.intro ?_ ?_
                · conv => whnf
                  refine And.intro ?_ ?_
                  · conv => whnf
                    exact ⟨rfl, rfl⟩
                  · conv => whnf
                    exact ⟨rfl, rfl⟩
                · conv => whnf
                  exact ⟨rfl, rfl⟩
        conv => whnf
        refine And.intro (by rw [List.length_map]) ?_
        conv => whnf
        have e0 : (r0.of_ - (k : Int)).toNat = 0 := by omega
        rw [e0] at b7
        simp only [gatherM] at b7
        rw [← him] at b7
        subst b7
        rw [hw1, hw2, hw3]
        refine ⟨.tp [.ag (txC ⟨seq, pos, r0.of_, im2⟩), .v (.int .i64 1)], [.box 121 (scX g a (.ow 2 x.length) (.ow 3 y.length) ((pos + r0.of_).tmod g.sl) (seq + 1) (left - r0.of_) (.ow 1 (W ++ w).length)), .row 75 2 ((W ++ w).map wrC), .row 30 2 (x.map gotC), .row 30 2 (y.map gotC)], ?_, ⟨?_, ?_, rfl, rfl, trivial⟩, rfl, rfl, rfl, rfl⟩
        · refine tp_sub ?_
          exact ⟨ag_sub ⟨fun _ _ h => h, fun _ _ h => h, fun _ _ h => h, row_sub im2 rfl rfl, trivial⟩, fun _ _ h => h, trivial⟩
        · rw [List.length_append, ← hn]
        · rw [List.map_append]
      · have rck := rc k r0.of_ (by omega)
        have rfk := rf k r0.of_ (by omega)
        rw [show (r0.of_ - (k : Int)).toNat = (r0.of_ - ((k + 1 : Nat) : Int)).toNat + 1 by omega] at b7
        unfold gatherM at b7
        simp only at b7
        generalize recM g a x y pos seq left k r0.of_ = qk at rck rfk b7
        obtain ⟨rk, hk, wk⟩ := qk
        simp only at rck rfk b7
        rcases rfk with ⟨rfl, ⟨e1, e2, e3⟩, e4⟩ | ⟨e1, rfl, rfl⟩
        · refine ACalls.frame [0, 1, 2, 3] rck rfl rfl rfl rfl (by decide) (lt03 rfl) ⟨rfl, rfl, rfl, rfl, trivial⟩ ?_
          rintro _ _ ⟨rfl, rfl⟩
          conv => whnf
          refine And.intro (by rw [List.length_map]) ?_
          conv => whnf
          refine And.intro ⟨by rw [List.length_map], by omega⟩ ?_
          conv => whnf
          exact ⟨(k + 1, rk, im2, w ++ wk), ⟨⟨Nat.succ_le_succ (Nat.zero_le _), show ((k + 1 : Nat) : Int) ≤ r0.of_ by omega⟩, ⟨e1, e2⟩, ⟨hl2, show (w ++ wk).length ≤ k + 1 by rw [List.length_append]; omega⟩, by rw [if_neg (show ¬ (1 : Int) ≠ 1 by decide), ← him] at b7; exact b7⟩, show (r0.of_ - ((k + 1 : Nat) : Int)).toNat < (r0.of_ - (k : Int)).toNat by omega, [], trivial, ⟨rfl, rfl, rfl, rfl, by rw [List.length_append]; rfl, wsucc (by omega), trivial⟩, ⟨rfl, rfl, rfl, rfl, rfl, by rw [List.map_append], rfl, rfl, trivial⟩, rfl, rfl, rfl⟩
        · rcases e1 with rfl | rfl
          all_goals
            refine ACalls.frame [0, 1, 2, 3] rck rfl rfl rfl rfl (by decide) (lt03 rfl) ⟨rfl, rfl, rfl, rfl, trivial⟩ ?_
            rintro _ _ ⟨rfl, rfl⟩
            conv => whnf
            rw [if_pos (by decide)] at b7
            subst b7
            exact ⟨_, [.box 121 (scX g a (.ow 2 x.length) (.ow 3 y.length) pos seq left (.ow 1 n)), .row 75 2 (W.map wrC), .row 30 2 (x.map gotC), .row 30 2 (y.map gotC)], tx0_sub _, ⟨rfl, rfl, rfl, rfl, trivial⟩, rfl, rfl, rfl, rfl⟩
  · rw [if_pos (show how0 ≠ 1 by omega)]
    simp only [if_neg (show ¬ how0 = 1 by omega)]
    refine ACalls.of tys_ok Tryd.func60 rfl rfl (by show 1 ≤ _; decide) ?_
    rcases k1 with rfl | rfl
    all_goals
      conv => whnf
      refine ACalls.frame [0, 1, 2, 3] rc0 rfl rfl rfl rfl (by decide) (lt03 rfl) ⟨rfl, rfl, rfl, rfl, trivial⟩ ?_
      rintro _ _ ⟨rfl, rfl⟩
      conv => whnf
      exact ⟨_, [.box 121 (scX g a (.ow 2 x.length) (.ow 3 y.length) pos seq left (.ow 1 n)), .row 75 2 (W.map wrC), .row 30 2 (x.map gotC), .row 30 2 (y.map gotC)], tx0_sub _, ⟨rfl, rfl, rfl, rfl, trivial⟩, rfl, rfl, rfl, rfl⟩
end Go.Proofs.YteecmgonbdbhdaaDoor.A
end

/-
Package scan: Scan, the readings being the caller's own rows.
-/
section
namespace Go.Proofs.YteecmgonbdbhdaaDoor.A
open Go.RowKit

theorem lt46 {m : Nat} (h : Nat.ble 7 m = true) : ∀ z ∈ [4, 6, 0, 1], z < m := fun z hz => by
  have := Nat.le_of_ble_eq_true h
  simp at hz
  omega
set_option maxRecDepth 100000 in
set_option maxHeartbeats 4000000 in
theorem scanO_fn (g : Geo) (a : An) (x y : List Gt) (hl : a.label.size ≤ 1000000) (hh : a.homes.length ≤ 1000000) (hxb : ∀ z ∈ x, z.bytes.length ≤ 100000) (hyb : ∀ z ∈ y, z.bytes.length ≤ 100000) :
    ACalls Tryd.prog false 34 [.ag (geoC g), .ag (anC a), .ow 0 x.length, .ow 1 y.length] [.row 30 2 (x.map gotC), .row 30 2 (y.map gotC)] fun r H => r = .tp [txsA (scanA g a x y).1, wrsA (scanA g a x y).2.1, .v (.int .i64 (scanA g a x y).2.2)] ∧ H = [.row 30 2 (x.map gotC), .row 30 2 (y.map gotC)] := by
  have s1 := acheck_fn g a hl hh
  unfold scanA
  cases hA : okG g && anOk g a with
  | false =>
    rw [hA] at s1
    refine ACalls.of tys_ok Tryd.func34 rfl rfl (by show 4 ≤ _; decide) ?_
    conv => whnf
    refine Fn.closed (s1) rfl ?_
    rintro _ rfl
    conv => whnf
    exact ⟨_, [.row 30 2 (x.map gotC), .row 30 2 (y.map gotC)], fun c u h => scan0_sub 1 c u h, ⟨rfl, rfl, trivial⟩, rfl, rfl, rfl, rfl⟩
  | true =>
    rw [hA] at s1
    obtain ⟨hg, ha⟩ := Bool.and_eq_true_iff.1 hA
    obtain ⟨h1, h2, h3, h4, h5⟩ := okG_iff.1 hg
    rw [if_pos rfl]
    by_cases hx : (x.length : Int) = g.sl ∧ (y.length : Int) = g.sl
    · rw [if_pos hx]
      obtain ⟨hx, hy⟩ := hx
      refine ACalls.of tys_ok Tryd.func34 rfl rfl (by show 4 ≤ _; decide) ?_
      conv => whnf
      refine Fn.closed (s1) rfl ?_
      rintro _ rfl
      conv => whnf
      refine boolI (fun t1 => ?_) (fun t1 => ?_) <;> (repeat rw [Int.toNat_natCast] at t1) <;> conv => whnf
      · exact absurd hx t1
      refine boolI (fun t2 => ?_) (fun t2 => ?_) <;> (repeat rw [Int.toNat_natCast] at t2) <;> conv => whnf
      · exact absurd hy t2
      have hq := anOk_seq ha
      unfold scanM
      generalize hR : scanL g a x y g.sl.toNat a.pos a.seq g.sl [] [] = R
      refine aLoop.rule (Nat × Int × Int × Int × List Tx × List Wr) (fun z => ([(5, .bp 3 0), (11, .bp 4 0), (8, .ow 5 z.2.2.2.2.1.length)], [.row 30 2 (x.map gotC), .row 30 2 (y.map gotC), .box 23 (geoC g), .box 26 (anC a), .box 121 (scX g a (.ow 0 x.length) (.ow 1 y.length) z.2.1 z.2.2.1 z.2.2.2.1 (.ow 6 z.2.2.2.2.2.length)), .row 84 4 (z.2.2.2.2.1.map txC), .row 75 2 (z.2.2.2.2.2.map wrC)]))
        (fun z => scanL g a x y z.1 z.2.1 z.2.2.1 z.2.2.2.1 z.2.2.2.2.1 z.2.2.2.2.2 = R ∧ z.2.2.2.1 ≤ z.1 ∧ (0 ≤ z.2.1 ∧ z.2.1 < g.sl) ∧ (0 ≤ z.2.2.1 ∧ z.2.2.1 ≤ 4294967296) ∧ z.2.2.2.2.1.length * 2 + z.2.2.2.1 ≤ g.sl ∧ z.2.2.2.2.2.length ≤ z.2.2.2.2.1.length * 30)
        (fun z => z.1) (g.sl.toNat, a.pos, a.seq, g.sl, [], []) ⟨hR, show g.sl ≤ (g.sl.toNat : Int) by omega, hq.2, hq.1, show (0 : Int) * 2 + g.sl ≤ g.sl by omega, Nat.le_refl 0⟩ ⟨[(8, 84, 4), (1004017, 75, 2)], ⟨rfl, rfl, rfl, rfl, trivial⟩, ⟨rfl, rfl, rfl, trivial⟩, ⟨rfl, rfl, rfl, rfl, rfl, rfl, rfl, trivial⟩, rfl, rfl, rfl⟩ ?_
      rintro ⟨f, pos, seq, left, l, w⟩ ⟨b1, b2, b3, b4, b5, b6⟩
      dsimp only at b1 b2 b3 b4 b5 b6 ⊢
      conv => whnf
      refine boolI (fun c1 => ?_) (fun c1 => ?_) <;> (repeat rw [Int.toNat_natCast] at c1) <;> conv => whnf
      · refine boolI (fun c2 => ?_) (fun c2 => ?_) <;> (repeat rw [Int.toNat_natCast] at c2) <;> conv => whnf
        · cases f with
          | zero => exfalso; omega
          | succ f =>
            unfold scanL at b1
            rw [if_pos ⟨c1, c2⟩] at b1
            simp only at b1
            have tx := txnO_fn18 g a x y pos seq left w.length w rfl (by omega) hg ha hl hh hx hy hxb hyb b3 ⟨b4.1, c2⟩ (by omega)
            have tf := txnM_facts (a := a) (x := x) (y := y) (seq := seq) (left := left) hg b3
            generalize txnM g a x y pos seq left = q at tx tf b1
            obtain ⟨how, n, im, ws⟩ := q
            simp only at tx tf b1
            rcases tf with ⟨rfl, tf1, tf2⟩ | tf
            · rw [if_pos rfl, if_pos rfl] at tx
              have hm := Int.tmod_lt_of_pos (pos + n) (show 0 < g.sl by omega)
              have hm0 := Int.tmod_nonneg g.sl (show 0 ≤ pos + n by omega)
              have hI2 : scanL g a x y f ((pos + n).tmod g.sl) (seq + 1) (left - n) (l ++ [⟨seq, pos, n, im⟩]) (w ++ ws) = R ∧ left - n ≤ (f : Int) ∧ (0 ≤ (pos + n).tmod g.sl ∧ (pos + n).tmod g.sl < g.sl) ∧ (0 ≤ seq + 1 ∧ seq + 1 ≤ 4294967296) ∧ ((l ++ [(⟨seq, pos, n, im⟩ : Tx)]).length : Int) * 2 + (left - n) ≤ g.sl ∧ (w ++ ws).length ≤ (l ++ [(⟨seq, pos, n, im⟩ : Tx)]).length * 30 := by
                rw [if_neg (by decide), if_neg (by decide)] at b1
                rw [List.length_append, List.length_append]
                simp only [List.length_cons, List.length_nil]
                exact ⟨b1, by omega, ⟨hm0, hm⟩, by omega, by omega, by omega⟩
              refine ACalls.frame [4, 6, 0, 1] tx rfl rfl rfl rfl (by decide) (lt46 rfl) ⟨rfl, rfl, rfl, rfl, trivial⟩ ?_
              rintro _ _ ⟨rfl, rfl⟩
              conv => whnf
              refine And.intro rfl ?_
              conv => whnf
              refine And.intro ⟨by rw [List.length_map], by omega⟩ ?_
              conv => whnf
              refine ⟨(f, (pos + n).tmod g.sl, seq + 1, left - n, l ++ [⟨seq, pos, n, im⟩], w ++ ws), ?_, Nat.lt_succ_self f, [], trivial, ⟨rfl, rfl, congrArg (AV.ow 5) (show l.length + 1 = (l ++ [(⟨seq, pos, n, im⟩ : Tx)]).length by rw [List.length_append]; rfl), trivial⟩, ⟨rfl, rfl, rfl, rfl, rfl, by rw [List.map_append]; rfl, rfl, trivial⟩, rfl, rfl, rfl⟩
              exact hI2
            · rw [if_neg (show ¬ how = 1 by omega), if_neg (show ¬ how = 1 by omega)] at tx
              rcases tf with rfl | rfl
              · rw [if_neg (by decide), if_pos (by decide)] at b1
                subst b1
                refine ACalls.frame [4, 6, 0, 1] tx rfl rfl rfl rfl (by decide) (lt46 rfl) ⟨rfl, rfl, rfl, rfl, trivial⟩ ?_
                rintro _ _ ⟨rfl, rfl⟩
                conv => whnf
                refine aDraw.seq tys_ok mixed (by kernel_rfl) ?_
                conv => whnf
                have hws : IntKind.i64.wrap (seq - 1) = seq - 1 := by rw [IntKind.wrap_i64]; omega
                refine boolI (fun e1 => ?_) (fun e1 => ?_) <;> (repeat rw [Int.toNat_natCast] at e1) <;> conv => whnf
                · rw [hws] at e1
                  exact ⟨_, [.row 30 2 (x.map gotC), .row 30 2 (y.map gotC)], fun c u h => scan0_sub 12 c u h, ⟨rfl, rfl, trivial⟩, rfl, rfl, by rw [finM_pos e1]; rfl, rfl⟩
                · rw [hws] at e1
                  refine aDraw.seq tys_ok mixed (by kernel_rfl) ?_
                  conv => whnf
                  refine And.intro (by rw [List.length_map]) ?_
                  conv => whnf
                  refine And.intro (by rw [List.length_map]) ?_
                  conv => whnf
                  exact ⟨.tp [txsA l, wrsA w, .v (.int .i64 0)], [.row 30 2 (x.map gotC), .row 30 2 (y.map gotC)], tp_sub ⟨row_sub l rfl rfl, row_sub w rfl rfl, fun _ _ h => h, trivial⟩, ⟨rfl, rfl, trivial⟩, rfl, rfl, by rw [finM_neg (by omega)], rfl⟩
              · rw [if_pos rfl] at b1
                subst b1
                refine ACalls.frame [4, 6, 0, 1] tx rfl rfl rfl rfl (by decide) (lt46 rfl) ⟨rfl, rfl, rfl, rfl, trivial⟩ ?_
                rintro _ _ ⟨rfl, rfl⟩
                conv => whnf
                exact ⟨_, [.row 30 2 (x.map gotC), .row 30 2 (y.map gotC)], fun c u h => scan0_sub 12 c u h, ⟨rfl, rfl, trivial⟩, rfl, rfl, rfl, rfl⟩
        · have hb : some (l, w, seq) = R := by
            cases f with
            | zero => exact b1
            | succ f => unfold scanL at b1; rw [if_neg (by omega)] at b1; exact b1
          subst hb
          refine aDraw.seq tys_ok mixed (by kernel_rfl) ?_
          conv => whnf
          have hws : IntKind.i64.wrap (seq - 1) = seq - 1 := by rw [IntKind.wrap_i64]; omega
          refine boolI (fun e1 => ?_) (fun e1 => ?_) <;> (repeat rw [Int.toNat_natCast] at e1) <;> conv => whnf
          · rw [hws] at e1
            exact ⟨_, [.row 30 2 (x.map gotC), .row 30 2 (y.map gotC)], fun c u h => scan0_sub 12 c u h, ⟨rfl, rfl, trivial⟩, rfl, rfl, by rw [finM_pos e1]; rfl, rfl⟩
          · rw [hws] at e1
            refine aDraw.seq tys_ok mixed (by kernel_rfl) ?_
            conv => whnf
            refine And.intro (by rw [List.length_map]) ?_
            conv => whnf
            refine And.intro (by rw [List.length_map]) ?_
            conv => whnf
            exact ⟨.tp [txsA l, wrsA w, .v (.int .i64 0)], [.row 30 2 (x.map gotC), .row 30 2 (y.map gotC)], tp_sub ⟨row_sub l rfl rfl, row_sub w rfl rfl, fun _ _ h => h, trivial⟩, ⟨rfl, rfl, trivial⟩, rfl, rfl, by rw [finM_neg (by omega)], rfl⟩
      · have hb : some (l, w, seq) = R := by
          cases f with
          | zero => exact b1
          | succ f => unfold scanL at b1; rw [if_neg (by omega)] at b1; exact b1
        subst hb
        refine aDraw.seq tys_ok mixed (by kernel_rfl) ?_
        conv => whnf
        have hws : IntKind.i64.wrap (seq - 1) = seq - 1 := by rw [IntKind.wrap_i64]; omega
        refine boolI (fun e1 => ?_) (fun e1 => ?_) <;> (repeat rw [Int.toNat_natCast] at e1) <;> conv => whnf
        · rw [hws] at e1
          exact ⟨_, [.row 30 2 (x.map gotC), .row 30 2 (y.map gotC)], fun c u h => scan0_sub 12 c u h, ⟨rfl, rfl, trivial⟩, rfl, rfl, by rw [finM_pos e1]; rfl, rfl⟩
        · rw [hws] at e1
          refine aDraw.seq tys_ok mixed (by kernel_rfl) ?_
          conv => whnf
          refine And.intro (by rw [List.length_map]) ?_
          conv => whnf
          refine And.intro (by rw [List.length_map]) ?_
          conv => whnf
          exact ⟨.tp [txsA l, wrsA w, .v (.int .i64 0)], [.row 30 2 (x.map gotC), .row 30 2 (y.map gotC)], tp_sub ⟨row_sub l rfl rfl, row_sub w rfl rfl, fun _ _ h => h, trivial⟩, ⟨rfl, rfl, trivial⟩, rfl, rfl, by rw [finM_neg (by omega)], rfl⟩
    · rw [if_neg hx]
      refine ACalls.of tys_ok Tryd.func34 rfl rfl (by show 4 ≤ _; decide) ?_
      conv => whnf
      refine Fn.closed (s1) rfl ?_
      rintro _ rfl
      conv => whnf
      refine boolI (fun t1 => ?_) (fun t1 => ?_) <;> (repeat rw [Int.toNat_natCast] at t1) <;> conv => whnf
      · exact ⟨_, [.row 30 2 (x.map gotC), .row 30 2 (y.map gotC)], fun c u h => scan0_sub 2 c u h, ⟨rfl, rfl, trivial⟩, rfl, rfl, rfl, rfl⟩
      refine boolI (fun t2 => ?_) (fun t2 => ?_) <;> (repeat rw [Int.toNat_natCast] at t2) <;> conv => whnf
      · exact ⟨_, [.row 30 2 (x.map gotC), .row 30 2 (y.map gotC)], fun c u h => scan0_sub 2 c u h, ⟨rfl, rfl, trivial⟩, rfl, rfl, rfl, rfl⟩
      · exact absurd ⟨t1, t2⟩ hx
end Go.Proofs.YteecmgonbdbhdaaDoor.A
end

/-
What a written log says; a scan by what the copies say.
-/
section
namespace Go.Proofs.YteecmgonbdbhdaaDoor.A
open Go.RowKit

theorem written_says {g : Geo} {l : List Tx} {epoch : Int} (hg : okG g = true) (h : LogOk g l epoch) {copy : Int} (hc : copy = 0 ∨ copy = 1) {s : Nat} (hs : (s : Int) < g.sl) : saysR g ((writtenM g l epoch copy g.sl.toNat).getD s gz) copy (s : Nat) = some (recW g l epoch (s : Nat)) := by
  have hin : (0 : Int) ≤ (s : Nat) ∧ ((s : Nat) : Int) < g.sl := by omega
  have e : (writtenM g l epoch copy g.sl.toNat).getD s gz = ⟨0, cellB g (recW g l epoch (s : Nat)) copy (s : Nat)⟩ := by
    unfold writtenM
    rw [map_getD (d := 0) (by rw [List.length_range]; omega)]
    rw [List.getD_eq_getElem?_getD, List.getElem?_range (by omega)]
    rfl
  rw [e]
  refine says_cell hg (h.ok s hin) ?_
  rw [okL, inB_iff.2 (show 0 ≤ ((s : Nat) : Int) ∧ ((s : Nat) : Int) ≤ g.sl - 1 by omega)]
  rcases hc with rfl | rfl <;> rfl
theorem saysR_out {g : Geo} {x : Gt} {copy s : Int} (h : ¬ (0 ≤ s ∧ s < g.sl)) : saysR g x copy s = none := by
  refine saysR_none ?_
  have : inB s 0 (g.sl - 1) = false := by
    rw [← Bool.not_eq_true]
    intro e
    have := inB_iff.1 e
    omega
  rw [okL, this]
  simp
def lookP (a : An) (p q : Int → Option Rc) (slot seq at_ of_ left : Int) : Rc × List Int × Int :=
  lookT (p slot) (q slot) (oneO (p slot) a seq at_ of_ left) (oneO (q slot) a seq at_ of_ left)
def recP (g : Geo) (a : An) (p q : Int → Option Rc) (pos seq left at_ of_ : Int) : Rc × Int × List Wr :=
  let s := slotM g pos at_
  let z := lookP a p q s seq at_ of_ left
  (z.1, z.2.2, z.2.1.map fun c => ⟨logAt g c s, cellB g z.1 c s⟩)
def txnP (g : Geo) (a : An) (p q : Int → Option Rc) (pos seq left : Int) : Int × Int × List Img × List Wr :=
  let z := recP g a p q pos seq left 0 0
  if z.2.1 ≠ 1 then (z.2.1, 0, [], []) else
    let t := gatherM (fun k => recP g a p q pos seq left k z.1.of_) (z.1.of_ - 1).toNat 1 z.1 [] z.2.2
    if t.1 ≠ 1 then (t.1, 0, [], []) else (1, z.1.of_, t.2.1, t.2.2)
def scanLP (g : Geo) (a : An) (p q : Int → Option Rc) : Nat → Int → Int → Int → List Tx → List Wr → Option (List Tx × List Wr × Int)
  | 0, _, seq, _, l, w => some (l, w, seq)
  | f + 1, pos, seq, left, l, w =>
    if 0 < left ∧ seq ≤ 4294967295 then
      let t := txnP g a p q pos seq left
      if t.1 = 3 then none else if t.1 ≠ 1 then some (l, w, seq)
      else scanLP g a p q f ((pos + t.2.1).tmod g.sl) (seq + 1) (left - t.2.1) (l ++ [⟨seq, pos, t.2.1, t.2.2.1⟩]) (w ++ t.2.2.2)
    else some (l, w, seq)
def scanP (g : Geo) (a : An) (p q : Int → Option Rc) : List Tx × List Wr × Int := finM a (scanLP g a p q g.sl.toNat a.pos a.seq g.sl [] [])
def saysF (g : Geo) (x : List Gt) (copy : Int) : Int → Option Rc := fun s => saysR g (x.getD s.toNat gz) copy s
theorem scanL_P (g : Geo) (a : An) (x y : List Gt) : ∀ (f : Nat) (pos seq left : Int) (l : List Tx) (w : List Wr), scanL g a x y f pos seq left l w = scanLP g a (saysF g x 0) (saysF g y 1) f pos seq left l w
  | 0, _, _, _, _, _ => rfl
  | f + 1, pos, seq, left, l, w => by
    unfold scanL scanLP
    have e : txnM g a x y pos seq left = txnP g a (saysF g x 0) (saysF g y 1) pos seq left := rfl
    rw [e]
    simp only [scanL_P g a x y f]
theorem scanM_P (g : Geo) (a : An) (x y : List Gt) : scanM g a x y = scanP g a (saysF g x 0) (saysF g y 1) := by
  unfold scanM scanP
  rw [scanL_P]
/-- What a written copy says, some of its readings spoilt. -/
def saysW (g : Geo) (l : List Tx) (epoch : Int) (bad : Int → Bool) : Int → Option Rc := fun s => if 0 ≤ s ∧ s < g.sl then (if bad s then none else some (recW g l epoch s)) else none
theorem saysF_W {g : Geo} {l : List Tx} {epoch : Int} (hg : okG g = true) (h : LogOk g l epoch) {copy : Int} (hc : copy = 0 ∨ copy = 1) : saysF g (writtenM g l epoch copy g.sl.toNat) copy = saysW g l epoch fun _ => false := by
  funext s
  unfold saysF saysW
  by_cases hs : 0 ≤ s ∧ s < g.sl
  · rw [if_pos hs, if_neg (Bool.false_ne_true)]
    obtain ⟨k, rfl⟩ := Int.eq_ofNat_of_zero_le hs.1
    rw [Int.toNat_natCast]
    exact written_says hg h hc hs.2
  · rw [if_neg hs]
    exact saysR_out hs
/-- A reading set to one that says nothing. -/
theorem saysF_set {g : Geo} {x : List Gt} {copy : Int} {k : Nat} {z : Gt} {l : List Tx} {epoch : Int} {bad : Int → Bool} (h : saysF g x copy = saysW g l epoch bad) (hk : k < x.length) (hz : saysR g z copy (k : Nat) = none) : saysF g (x.set k z) copy = saysW g l epoch fun s => decide (s = (k : Nat)) || bad s := by
  funext s
  have hs' := congrFun h s
  unfold saysF at hs' ⊢
  by_cases hs : 0 ≤ s ∧ s < g.sl
  · obtain ⟨i, rfl⟩ := Int.eq_ofNat_of_zero_le hs.1
    rw [Int.toNat_natCast] at hs' ⊢
    unfold saysW at hs' ⊢
    rw [if_pos hs] at hs' ⊢
    by_cases e : i = k
    · subst e
      rw [List.getD_eq_getElem?_getD, List.getElem?_set_self hk]
      simp only [Option.getD_some]
      rw [hz, if_pos (by simp)]
    · rw [List.getD_eq_getElem?_getD, List.getElem?_set_ne (Ne.symm e), ← List.getD_eq_getElem?_getD, hs']
      have : decide (((i : Nat) : Int) = ((k : Nat) : Int)) = false := decide_eq_false (by omega)
      show _ = if (decide (((i : Nat) : Int) = ((k : Nat) : Int)) || bad ((i : Nat) : Int)) = true then none else some (recW g l epoch ((i : Nat) : Int))
      rw [this, Bool.false_or]
  · unfold saysW
    rw [if_neg hs]
    exact saysR_out hs
theorem log18_who : ∀ s : Nat, s < 14 → (match whoM g17 (s : Int) log18 0 with
    | some (i, k) => decide (i < log18.length ∧ 0 ≤ k ∧ k.toNat < (log18.getD i tz).images.length + 1)
    | none => true) = true := by decide +kernel
theorem log18_okR : ∀ s : Nat, s < 14 → okR g17 (recW g17 log18 0 (s : Int)) = true := by decide +kernel
theorem log18_ok : LogOk g17 log18 0 where
  len := by decide
  img := by decide
  who := fun s i k hs h => by
    obtain ⟨n, rfl⟩ := Int.eq_ofNat_of_zero_le hs.1
    have := log18_who n (Int.ofNat_lt.1 hs.2)
    rw [h] at this
    exact of_decide_eq_true this
  ok := fun s hs => by
    obtain ⟨n, rfl⟩ := Int.eq_ofNat_of_zero_le hs.1
    exact log18_okR n (Int.ofNat_lt.1 hs.2)
theorem scan18_a : scanP g17 a17 (saysW g17 log18 0 fun s => decide (s = ((1 : Nat) : Int)) || false) (saysW g17 log18 0 fun _ => false) = (log18, [⟨2, cellB g17 (recW g17 log18 0 1) 0 1⟩], 0) := by kernel_rfl
theorem scan18_b : scanP g17 a17 (saysW g17 log18 0 fun s => decide (s = ((1 : Nat) : Int)) || false) (saysW g17 log18 0 fun s => decide (s = ((1 : Nat) : Int)) || false) = ([], [], 12) := by kernel_rfl
end Go.Proofs.YteecmgonbdbhdaaDoor.A
end

/-
casematelaw18: two transactions, and one copy gone.
-/
section
namespace Go.Proofs.YteecmgonbdbhdaaDoor.A
open Go.RowKit

theorem RdL.split {c : Ctx} : ∀ {l m : List AV} {xs : List Value}, RdL (l ++ m) c xs → ∃ a b, xs = a ++ b ∧ RdL l c a ∧ RdL m c b
  | [], m, xs, h => ⟨[], xs, rfl, by simp only [RdL], h⟩
  | x :: l, m, xs, h => by
    simp only [List.cons_append, RdL] at h
    obtain ⟨y, ys, rfl, h1, h2⟩ := h
    obtain ⟨a, b, rfl, h3, h4⟩ := RdL.split h2
    exact ⟨y :: a, b, rfl, by simp only [RdL]; exact ⟨y, a, rfl, h1, h3⟩, h4⟩
theorem SubLL.len : ∀ {es fs : List (List AV)}, SubLL es fs → es.length = fs.length
  | [], [], _ => rfl
  | _ :: _, _ :: _, h => by simp [SubLL.len h.2]
  | [], _ :: _, h => h.elim
  | _ :: _, [], h => h.elim
theorem SubLL.flat : ∀ {es fs : List (List AV)} {c : Ctx} {xs : List Value}, SubLL es fs → RdL es.flatten c xs → RdL fs.flatten c xs
  | [], [], _, _, _, h => h
  | a :: r, b :: s, c, xs, h, hr => by
    rw [List.flatten_cons] at hr ⊢
    obtain ⟨x1, x2, rfl, h1, h2⟩ := RdL.split hr
    exact RdL.append (h.1.rdl h1) (SubLL.flat h.2 h2)
  | [], _ :: _, _, _, h, _ => h.elim
  | _ :: _, [], _, _, h, _ => h.elim
theorem SubLL.sz : ∀ {es fs : List (List AV)} {sz : Nat}, SubLL es fs → (∀ e ∈ es, e.length = sz) → ∀ e ∈ fs, e.length = sz
  | [], [], _, _, _ => by simp
  | a :: r, b :: s, sz, h, hs => by
    intro e he
    rcases List.mem_cons.1 he with rfl | he
    · rw [← h.1.len]; exact hs a (by simp)
    · exact SubLL.sz h.2 (fun e he => hs e (List.mem_cons_of_mem _ he)) e he
  | [], _ :: _, _, h, _ => h.elim
  | _ :: _, [], _, h, _ => h.elim
def ABSub : AB → AB → Prop
  | .row t sz es, .row t' sz' es' => t = t' ∧ sz = sz' ∧ SubLL es es'
  | x, y => x = y
/-- A heap whose rows read as those of another. -/
def HSub : List AB → List AB → Prop
  | [], [] => True
  | x :: r, y :: s => ABSub x y ∧ HSub r s
  | _, _ => False
theorem HSub.len : ∀ {H H' : List AB}, HSub H H' → H.length = H'.length
  | [], [], _ => rfl
  | _ :: _, _ :: _, h => by simp [HSub.len h.2]
  | [], _ :: _, h => h.elim
  | _ :: _, [], h => h.elim
theorem HSub.get : ∀ {H H' : List AB} {k : Nat} {y : AB}, HSub H H' → H'[k]? = some y → ∃ x, H[k]? = some x ∧ ABSub x y
  | [], [], k, y, _, h => by simp at h
  | x :: r, y :: s, 0, z, h, hz => by
    simp at hz
    subst hz
    exact ⟨x, by simp, h.1⟩
  | x :: r, y :: s, k + 1, z, h, hz => by
    obtain ⟨w, h1, h2⟩ := HSub.get (k := k) h.2 (by simpa using hz)
    exact ⟨w, by simpa using h1, h2⟩
  | [], _ :: _, _, _, h, _ => h.elim
  | _ :: _, [], _, _, _, hz => by simp at hz
theorem ABSub.live : ∀ {x y : AB}, ABSub x y → x.live = y.live := by
  intro x y h
  cases x <;> cases y <;> simp only [ABSub] at h <;> first | rfl | cases h
theorem ABSub.blk {c : Ctx} {k : Nat} : ∀ {x y : AB}, ABSub x y → BlkOk c k x → BlkOk c k y
  | .row t sz es, .row t' sz' es', h, hb => by
    obtain ⟨rfl, rfl, h⟩ := h
    obtain ⟨h1, h2, h3, xs, h4, h5, h6⟩ := hb
    refine ⟨h1.trans h.len, h2, h.sz h3, xs, ?_, h.flat h5, h6⟩
    rw [← h.len]
    exact h4
  | .row _ _ _, .box _ _, h, _ => by cases h
  | .row _ _ _, .iter _ _, h, _ => by cases h
  | .row _ _ _, .dead, h, _ => by cases h
  | .box t cs, y, h, hb => by
    have h : AB.box t cs = y := h
    subst h
    exact hb
  | .iter a b, y, h, hb => by
    have h : AB.iter a b = y := h
    subst h
    exact hb
  | .dead, y, h, hb => by
    have h : AB.dead = y := h
    subst h
    exact hb
theorem HS.hsub {w0 : Fl} {M0 : Ms} {c : Ctx} {H H' : List AB} (hs : HS w0 M0 c H) (h : HSub H H') : HS w0 M0 c H' := by
  refine ⟨hs.low, hs.base, hs.dom.trans h.len, hs.foreign, hs.lt, fun k y hy => ?_, fun k y g hy hl ho => ?_, fun j k y z g hj hk hy hz ho ho' => ?_⟩
  · obtain ⟨x, h1, h2⟩ := h.get hy
    exact h2.blk (hs.blk k x h1)
  · obtain ⟨x, h1, h2⟩ := h.get hy
    exact hs.own k x g h1 (h2.live.trans hl) ho
  · obtain ⟨x1, h1, h2⟩ := h.get hj
    obtain ⟨x2, h3, h4⟩ := h.get hk
    exact hs.dis j k x1 x2 g h1 h3 (h2.live.trans hy) (h4.live.trans hz) ho ho'
theorem ACalls.hsub {P : Program} {q : Bool} {f : FuncId} {args : List AV} {H : List AB} {k : AV → List AB → Prop} (H' : List AB) (hs : HSub H H') (h : ACalls P q f args H' k) : ACalls P q f args H k :=
  ⟨h.go, fun w0 M0 c us hs0 hr => h.calls w0 M0 c us (hs0.hsub hs) hr⟩
theorem written_len (g : Geo) (l : List Tx) (epoch copy : Int) (n : Nat) : (writtenM g l epoch copy n).length = n := by simp [writtenM]
theorem written_short {g : Geo} {l : List Tx} {epoch : Int} (h : LogOk g l epoch) (copy : Int) : ∀ z ∈ writtenM g l epoch copy g.sl.toNat, z.bytes.length ≤ 100000 := by
  intro z hz
  unfold writtenM at hz
  obtain ⟨s, hs, rfl⟩ := List.mem_map.1 hz
  have hs := List.mem_range.1 hs
  exact cellB_short (h.ok s (by omega)) copy s
theorem lt34 {m : Nat} (h : Nat.ble 5 m = true) : ∀ z ∈ [3, 4], z < m := fun z hz => by
  have := Nat.le_of_ble_eq_true h
  simp at hz
  omega
theorem SubLL.refl : ∀ l, SubLL l l
  | [] => trivial
  | _ :: l => ⟨SubL.refl _, SubLL.refl l⟩
theorem SubLL.set {a b : List AV} (h : SubL a b) : ∀ {l m : List (List AV)} (k : Nat), SubLL l m → SubLL (l.set k a) (m.set k b)
  | [], [], _, h => h
  | _ :: _, _ :: _, 0, h2 => ⟨h, h2.2⟩
  | _ :: _, _ :: _, k + 1, h2 => ⟨h2.1, SubLL.set h k h2.2⟩
  | [], _ :: _, _, h => h.elim
  | _ :: _, [], _, h => h.elim
theorem bad_sub (X : List Gt) (k : Nat) (e : Int) : SubLL ((X.map gotC).set k [.v (.int .i64 e), .v (.slice none 0 0)]) ((X.set k ⟨e, []⟩).map gotC) := by
  rw [List.map_set]
  exact SubLL.set (a := [.v (.int .i64 e), .v (.slice none 0 0)]) (b := gotC ⟨e, []⟩) ⟨fun _ _ h => h, nil_sl _ _, trivial⟩ k (SubLL.refl _)
set_option maxRecDepth 100000 in
theorem wakes18_fn : Fn Tryd.prog 38 [] fun r => r = .v (.bool true) := by
  have s1 := some_fn 0 0 0 0 0
  rw [show someG 0 0 0 0 0 = g17 from rfl] at s1
  have s2 : Fn Tryd.prog 48 [.ag (geoC g17), .v (.string ⟨#[]⟩)] fun r => r = .ag (anC a17) := first_fn g17 ⟨#[]⟩ (by decide)
  have hA : anOk g17 a17 = true := firstA_ok (by decide) lab_nil
  have w1 := written_fno g17 log18 0 (by decide) log18_ok
  have fX := saysF_W (g := g17) (l := log18) (epoch := 0) (by decide) log18_ok (copy := 0) (.inl rfl)
  have fY := saysF_W (g := g17) (l := log18) (epoch := 0) (by decide) log18_ok (copy := 1) (.inr rfl)
  have lX : (writtenM g17 log18 0 0 g17.sl.toNat).length = 14 := written_len _ _ _ _ _
  have lY : (writtenM g17 log18 0 1 g17.sl.toNat).length = 14 := written_len _ _ _ _ _
  have bX := written_short log18_ok 0
  have bY := written_short log18_ok 1
  rw [show g17.sl.toNat = 14 from rfl] at *
  generalize writtenM g17 log18 0 0 14 = X at *
  generalize writtenM g17 log18 0 1 14 = Y at *
  have hbad : ∀ c, saysR g17 ⟨6, []⟩ c ((1 : Nat) : Int) = none := fun c => says_err (by decide)
  have fX1 := saysF_set (z := ⟨6, []⟩) (k := 1) fX (by rw [lX]; decide) (hbad 0)
  have fY1 := saysF_set (z := ⟨6, []⟩) (k := 1) fY (by rw [lY]; decide) (hbad 1)
  have lX1 : (X.set 1 ⟨6, []⟩).length = 14 := by rw [List.length_set, lX]
  have lY1 : (Y.set 1 ⟨6, []⟩).length = 14 := by rw [List.length_set, lY]
  have hset : ∀ Z : List Gt, (∀ z ∈ Z, z.bytes.length ≤ 100000) → ∀ z ∈ Z.set 1 ⟨6, []⟩, z.bytes.length ≤ 100000 := fun Z hZ z hz => by
    rcases List.mem_or_eq_of_mem_set hz with h | rfl
    · exact hZ z h
    · exact Nat.zero_le _
  have hG : (okG g17 && anOk g17 a17) = true := by rw [hA]; rfl
  have v1 : scanA g17 a17 (X.set 1 ⟨6, []⟩) Y = (log18, [⟨2, cellB g17 (recW g17 log18 0 1) 0 1⟩], 0) := by
    unfold scanA
    rw [if_pos hG, if_pos (by rw [lX1, lY]; decide), scanM_P, fX1, fY, scan18_a]
  have v2 : scanA g17 a17 (X.set 1 ⟨6, []⟩) (Y.set 1 ⟨6, []⟩) = ([], [], 12) := by
    unfold scanA
    rw [if_pos hG, if_pos (by rw [lX1, lY1]; decide), scanM_P, fX1, fY1, scan18_b]
  have c1 := scanO_fn g17 a17 (X.set 1 ⟨6, []⟩) Y (by decide) (by decide) (hset X bX) bY
  have c2 := scanO_fn g17 a17 (X.set 1 ⟨6, []⟩) (Y.set 1 ⟨6, []⟩) (by decide) (by decide) (hset X bX) (hset Y bY)
  rw [v1, lX1, lY] at c1
  rw [v2, lX1, lY1] at c2
  dsimp only at c1 c2
  have t1 := txns_fn log18 log18 (by decide) (by decide)
  rw [decide_eq_true rfl] at t1
  refine Fn.of tys_ok Tryd.func38 rfl rfl (Nat.le_of_ble_eq_true rfl) ?_
  conv => whnf
  refine Fn.closed (s1) rfl ?_
  rintro _ rfl
  conv => whnf
  refine Fn.closed (s2) rfl ?_
  rintro _ rfl
  conv => whnf
  refine ACalls.shut (log18_fn).go ?_
  conv => whnf
  repeat' (refine And.intro (by first | rfl | omega | (simp; done) | (simp only [List.length_map]; omega)) ?_; conv => whnf)
  refine ACalls.sub _ ?_ (Fn.closed (log18_fn) rfl ?_)
  · repeat' (first | exact trivial | exact fun _ _ h => h | exact nil_sl _ _ | exact row_sub (f := fun x : Int => [AV.v (.int .i64 x)]) [0, 1] rfl rfl | refine And.intro ?_ ?_ | refine ag_sub ?_)
  rintro _ rfl
  conv => whnf
  refine FnO.call (w1) rfl ?_
  rintro _ _ ⟨rfl, rfl⟩
  conv => whnf
  refine ⟨by omega, ?_⟩
  conv => whnf
  have gX : (X.map gotC).getD (Int.toNat 1) [] = gotC (X.getD 1 gz) := map_getD (by rw [lX]; decide)
  have gY : (Y.map gotC).getD (Int.toNat 1) [] = gotC (Y.getD 1 gz) := map_getD (by rw [lY]; decide)
  refine And.intro ⟨rfl, by rw [List.length_map, lX], by decide⟩ ?_
  conv => whnf
  rw [gX]
  conv => whnf
  refine ACalls.hsub [.box 23 (geoC g17), .box 26 (anC a17), .dead, .row 30 2 ((X.set 1 ⟨6, []⟩).map gotC), .row 30 2 (Y.map gotC)] (And.intro rfl (And.intro rfl (And.intro rfl (And.intro (And.intro rfl (And.intro rfl (bad_sub X 1 6))) (And.intro (And.intro rfl (And.intro rfl (SubLL.refl _))) trivial))))) ?_
  refine ACalls.frame [3, 4] c1 rfl rfl rfl rfl (by decide) (lt34 rfl) ⟨rfl, rfl, trivial⟩ ?_
  rintro _ _ ⟨rfl, rfl⟩
  conv => whnf
  refine ⟨by omega, ?_⟩
  conv => whnf
  refine And.intro ⟨rfl, by rw [List.length_map, lY], by decide⟩ ?_
  conv => whnf
  rw [gY]
  conv => whnf
  refine ACalls.hsub [.box 23 (geoC g17), .box 26 (anC a17), .dead, .row 30 2 ((X.set 1 ⟨6, []⟩).map gotC), .row 30 2 ((Y.set 1 ⟨6, []⟩).map gotC)] (And.intro rfl (And.intro rfl (And.intro rfl (And.intro (And.intro rfl (And.intro rfl (SubLL.refl _))) (And.intro (And.intro rfl (And.intro rfl (bad_sub Y 1 6))) trivial))))) ?_
  refine ACalls.frame [3, 4] c2 rfl rfl rfl rfl (by decide) (lt34 rfl) ⟨rfl, rfl, trivial⟩ ?_
  rintro _ _ ⟨rfl, rfl⟩
  conv => whnf
  refine aDraw.of tys_ok mixed [0, 1, 2, 3, 4, 5, 6, 7, 8, 9, 10, 11, 12, 13, 14, 15, 16, 17, 18, 19, 20, 21, 22, 23, 24, 25, 26] (by kernel_rfl) ?_
  conv => whnf
  repeat' (first | (refine aSeq.go ?_; conv => whnf) | (refine boolI (fun _ => ?_) (fun _ => ?_) <;> conv => whnf) | (refine Fn.closed (t1) rfl ?_; rintro _ rfl; conv => whnf) | (refine And.intro (by first | omega | exact of_decide_eq_true rfl) ?_; conv => whnf) | fail)
  exact ⟨_, fun _ _ h => h, rfl⟩
end Go.Proofs.YteecmgonbdbhdaaDoor.A
end

/-
The reference: the table of a zone that was never written, as bytes.
-/
section
namespace Go.Proofs.YteecmgonbdbhdaaDoor.A
open Go.RowKit

theorem rput_br (l : List UInt8) (n m : Nat) (hl : l.length ≤ 1000000) (hn : n ≤ 4294967295) (hm : m ≤ 4) : Fn Tryd.prog 87 [bA l, .v (.int .i64 n), .v (.int .i64 m)] fun r => r = bA (l ++ leB m n) := by
  refine ⟨⟨_, Tryd.func87, rfl, by decide⟩, fun c0 us hd hM _ hr => ?_⟩
  simp only [RdL] at hr
  obtain ⟨u1, _, rfl, h1, u2, _, rfl, h2, u3, _, rfl, h3, rfl⟩ := hr
  simp only [Rd] at h2 h3
  subst h2 h3
  refine (rput_any u1 l n m c0.w c0.M (toBytes h1) hl hn hm).mono ?_
  rintro e w' ⟨q, rfl, ho, hB⟩
  exact ⟨_, _, rfl, rfl, hB, ofOwn ho hM⟩
theorem rput_int (l : List UInt8) (n : Int) (m : Nat) (hl : l.length ≤ 1000000) (hn : 0 ≤ n ∧ n ≤ 4294967295) (hm : m ≤ 4) : Fn Tryd.prog 87 [bA l, .v (.int .i64 n), .v (.int .i64 m)] fun r => r = bA (l ++ leB m n.toNat) := by
  obtain ⟨j, rfl⟩ := Int.eq_ofNat_of_zero_le hn.1
  exact rput_br l j m hl (by omega) hm
def entC (x : Ent) : List AV := [.v (.int .i64 x.stamp), .v (.int .i64 x.sum), .v (.bool x.lost)]
def entsA (l : List Ent) : AV := .sl 3 l.length fun i => entC (l.getD i ⟨0, 0, false⟩)
def zero8 : List UInt8 := [0, 0, 0, 0, 0, 0, 0, 0]
def ent0 : Ent := ⟨0, (sumC zero8 : Nat), false⟩
def tab0 (g : Geo) : List Ent := List.replicate (g.d + 1).toNat ent0
theorem entry_fn (stamp : Int) (b : List UInt8) : Fn Tryd.prog 88 [.v (.int .i64 stamp), bA b] fun r => r = .ag (entC ⟨stamp, (sumC b : Nat), false⟩) := by
  refine Fn.of tys_ok Tryd.func88 rfl rfl (Nat.le_of_ble_eq_true rfl) ?_
  conv => whnf
  repeat' (first | (refine aSeq.go ?_; conv => whnf) | (refine boolI (fun _ => ?_) (fun _ => ?_) <;> conv => whnf) | (refine Fn.closed (rsum_br b) rfl ?_; rintro _ rfl; conv => whnf) | (refine And.intro (by first | omega | exact of_decide_eq_true rfl) ?_; conv => whnf) | fail)
  exact ⟨_, fun _ _ h => h, rfl⟩
def bv (l : List Ent) : Nat → AV
  | 0 => .v (.slice none 0 0)
  | k + 1 => bA (tblB (l.take (k + 1)))
theorem tabB_fn (l : List Ent) (hl : l.length ≤ 1000) (hb : ∀ e ∈ l, (0 ≤ e.stamp ∧ e.stamp ≤ 4294967295) ∧ 0 ≤ e.sum ∧ e.sum ≤ 4294967295) : Fn Tryd.prog 57 [.ag [entsA l]] fun r => r = bA (tblB l) := by
  refine Fn.of tys_ok Tryd.func57 rfl rfl (Nat.le_of_ble_eq_true rfl) ?_
  conv => whnf
  refine aLoop.rule Nat (fun k => ([(1, .bp 0 0), (3, bv l k), (4, .v (.int .i64 k))], [.box 111 [entsA l]])) (fun k => k ≤ l.length) (fun k => l.length - k) 0 (Nat.zero_le _) ⟨[], trivial, ⟨rfl, rfl, rfl, trivial⟩, ⟨rfl, trivial⟩, rfl, rfl, rfl⟩ ?_
  intro k hk
  conv => whnf
  refine boolI (fun c1 => ?_) (fun c1 => ?_) <;> (repeat rw [Int.toNat_natCast] at c1) <;> conv => whnf
  · have he := hb _ (getD_mem (d := ⟨0, 0, false⟩) c1)
    refine aSeq.go ?_
    conv => whnf
    refine ⟨by omega, ?_⟩
    conv => whnf
    have hlt : (tblB (l.take k)).length ≤ 9000 := by rw [tblB_len, List.length_take]; omega
    have p1 := rput_int (tblB (l.take k)) (l.getD k ⟨0, 0, false⟩).stamp 4 (by omega) he.1 (by decide)
    have p2 := rput_int (tblB (l.take k) ++ leB 4 (l.getD k ⟨0, 0, false⟩).stamp.toNat) (l.getD k ⟨0, 0, false⟩).sum 4 (by rw [List.length_append, leB_len]; omega) he.2 (by decide)
    have p3 := rput_int (tblB (l.take k) ++ leB 4 (l.getD k ⟨0, 0, false⟩).stamp.toNat ++ leB 4 (l.getD k ⟨0, 0, false⟩).sum.toNat) (lostN (l.getD k ⟨0, 0, false⟩).lost) 1 (by rw [List.length_append, List.length_append, leB_len, leB_len]; omega) (by unfold lostN; split <;> omega) (by decide)
    have hst : bv l (k + 1) = bA (tblB (l.take k) ++ leB 4 (l.getD k ⟨0, 0, false⟩).stamp.toNat ++ leB 4 (l.getD k ⟨0, 0, false⟩).sum.toNat ++ leB 1 (lostN (l.getD k ⟨0, 0, false⟩).lost).toNat) := by
      rw [bv, tblB_step c1, entB]
      rw [List.getD_eq_getElem?_getD, List.getElem?_eq_getElem c1]
      simp [rowB, List.append_assoc]
    obtain ⟨L, hLe⟩ : ∃ L, (l.getD k ⟨0, 0, false⟩).lost = L := ⟨_, rfl⟩
    rw [hLe] at p3 hst
    rcases k with _ | k
    all_goals
      refine aDraw.of tys_ok mixed [0, 1, 2, 4, 5, 3, 6, 7] (by kernel_rfl) ?_
      conv => whnf
      refine ACalls.sub _ ?_ (Fn.closed (p1) rfl ?_)
      · repeat' (first | exact trivial | exact fun _ _ h => h | exact nil_sl _ _ | refine And.intro ?_ ?_ | refine ag_sub ?_)
      rintro _ rfl
      conv => whnf
      refine ACalls.sub _ ?_ (Fn.closed (p2) rfl ?_)
      · repeat' (first | exact trivial | exact fun _ _ h => h | exact nil_sl _ _ | refine And.intro ?_ ?_ | refine ag_sub ?_)
      rintro _ rfl
      conv => whnf
      refine aSeq.go ?_
      conv => whnf
      rw [Int.toNat_natCast, hLe]
      cases L
    all_goals
      conv => whnf
      refine Fn.closed (p3) rfl ?_
      rintro _ rfl
      conv => whnf
      refine ⟨_, by omega, by omega, [], trivial, ⟨rfl, hst.symm, wsucc (by omega), trivial⟩, ⟨rfl, trivial⟩, rfl, rfl, rfl⟩
  · have ek : k = l.length := by omega
    rcases k with _ | k
    · have e : l = [] := List.length_eq_zero_iff.1 ek.symm
      subst e
      conv => whnf
      exact ⟨bA (tblB []), nil_sl 1 _, rfl⟩
    · conv => whnf
      exact ⟨_, fun _ _ h => h, by rw [ek, List.take_length]; rfl⟩
theorem tab0_fn (g : Geo) (hg : okG g = true) : Fn Tryd.prog 58 [.ag (geoC g)] fun r => r = .ag [entsA (tab0 g)] := by
  obtain ⟨h1, h2, h3, h4, h5⟩ := okG_iff.1 hg
  refine Fn.of tys_ok Tryd.func58 rfl rfl (Nat.le_of_ble_eq_true rfl) ?_
  conv => whnf
  have w1 : IntKind.i64.wrap (g.d + 1) = g.d + 1 := by rw [IntKind.wrap_i64]; omega
  refine aLoop.rule Nat (fun k => ([(1, .bp 0 0), (2, .bp 1 0), (3, .bp 2 0), (4, .v (.int .i64 k))], [.box 23 (geoC g), .box 111 [.v (.slice none 0 0)], .box 111 [.ow 3 k], .row 149 3 ((List.replicate k ent0).map entC)])) (fun k => (k : Int) ≤ g.d + 1) (fun k => (g.d + 1 - k).toNat) 0 (show (0 : Int) ≤ g.d + 1 by omega) ⟨[(1002000, 149, 3)], ⟨rfl, rfl, trivial⟩, ⟨rfl, rfl, rfl, rfl, trivial⟩, ⟨rfl, rfl, rfl, rfl, trivial⟩, rfl, rfl, rfl⟩ ?_
  intro k hk
  conv => whnf
  refine boolI (fun c1 => ?_) (fun c1 => ?_) <;> (repeat rw [Int.toNat_natCast] at c1) <;> conv => whnf
  · refine aDraw.of tys_ok mixed [0, 1, 2, 3, 4, 5, 6, 7] (by kernel_rfl) ?_
    conv => whnf
    repeat' (refine And.intro (by first | omega | exact of_decide_eq_true rfl) ?_; conv => whnf)
    have e0 := entry_fn 0 zero8
    refine ACalls.shut (e0).go ?_
    conv => whnf
    repeat' (refine And.intro (by first | rfl | omega | (simp; done) | (simp only [List.length_map]; omega)) ?_; conv => whnf)
    refine ACalls.sub _ ?_ (Fn.closed (e0) rfl ?_)
    · repeat' (first | exact trivial | exact fun _ _ h => h | exact nil_sl _ _ | exact bytes_sub zero8 rfl rfl | refine And.intro ?_ ?_ | refine ag_sub ?_)
    rintro _ rfl
    conv => whnf
    repeat' (first | (refine And.intro (by first | rfl | omega) ?_; conv => whnf) | fail)
    refine And.intro ⟨by rw [List.length_map, List.length_replicate], by omega⟩ ?_
    conv => whnf
    exact ⟨k + 1, by omega, by omega, [], trivial, ⟨rfl, rfl, rfl, wsucc (by omega), trivial⟩, ⟨rfl, rfl, rfl, by rw [List.replicate_succ', List.map_append]; rfl, trivial⟩, rfl, rfl, rfl⟩
  · refine And.intro (by rw [List.length_map, List.length_replicate]) ?_
    conv => whnf
    have ek : k = (g.d + 1).toNat := by omega
    refine ⟨.ag [entsA (tab0 g)], ag_sub ⟨row_sub (tab0 g) ?_ ?_, trivial⟩, rfl⟩
    · rw [tab0, List.length_replicate, ek]
    · rw [tab0, ek]
end Go.Proofs.YteecmgonbdbhdaaDoor.A
end

/-
casematelaw16: a right log of a geometry and an anchor.
-/
section
namespace Go.Proofs.YteecmgonbdbhdaaDoor.A
open Go.RowKit

def logImg (g : Geo) (fill : UInt8) (i k : Nat) : Img :=
  if (i + k) % 4 = 3 then ⟨((i + k : Nat) : Int).tmod g.z, 255, tblB (tab0 g)⟩ else ⟨((i + k : Nat) : Int).tmod g.z, ((i + 2 * k : Nat) : Int).tmod (g.d + 1) - 1, [fill, UInt8.ofNat i, UInt8.ofNat k, 1, 2, 3, 4, 5]⟩
/-- How many images. -/
def nImg (s : Int) : Nat := 1 + ((IntKind.u64.wrap s).tmod 5).toNat
def logTx (g : Geo) (a : An) (fill : UInt8) (i : Nat) (pos : Int) (n : Nat) : Tx := ⟨a.seq + i, pos, n + 1, (List.range n).map fun k => logImg g fill i k⟩
/-- The log of the sizes from number i on. -/
def logM (g : Geo) (a : An) (fill : UInt8) : List Int → Nat → Int → Int → List Tx
  | [], _, _, _ => []
  | s :: r, i, pos, used => if g.sl < used + (nImg s : Nat) + 1 then [] else logTx g a fill i pos (nImg s) :: logM g a fill r (i + 1) ((pos + (nImg s : Nat) + 1).tmod g.sl) (used + (nImg s : Nat) + 1)
theorem nImg_in (s : Int) : 1 ≤ nImg s ∧ nImg s ≤ 5 := by
  have h0 : 0 ≤ IntKind.u64.wrap s := by rw [IntKind.wrap_u64]; omega
  have h1 := Int.tmod_nonneg 5 h0
  have h2 := Int.tmod_lt_of_pos (IntKind.u64.wrap s) (show (0 : Int) < 5 by decide)
  unfold nImg
  omega
theorem SubLL.app {e f : List AV} (h : SubL e f) : ∀ {a b : List (List AV)}, SubLL a b → SubLL (a ++ [e]) (b ++ [f])
  | [], [], _ => ⟨h, trivial⟩
  | _ :: _, _ :: _, h2 => ⟨h2.1, SubLL.app h h2.2⟩
  | [], _ :: _, h => h.elim
  | _ :: _, [], h => h.elim
theorem img_tab {g : Geo} {fill : UInt8} {i k : Nat} (t : ((i + k : Nat) : Int).tmod 4 = 3) : SubL (imgC ⟨((i + k : Nat) : Int).tmod g.z, 255, tblB (tab0 g)⟩) (imgC (logImg g fill i k)) := by
  have e : (i + k) % 4 = 3 := by
    rw [Int.tmod_eq_emod_of_nonneg (by omega)] at t
    omega
  rw [logImg, if_pos e]
  exact SubL.refl _
theorem u8_nat (m : Nat) : IntKind.u8.wrap (m : Int) = ((UInt8.ofNat m).toNat : Int) := by
  rw [IntKind.wrap_u8, UInt8.toNat_ofNat']
  omega
theorem img_plain {g : Geo} {fill : UInt8} {i k : Nat} (t : ¬ ((i + k : Nat) : Int).tmod 4 = 3) : SubL [.v (.int .i64 (((i + k : Nat) : Int).tmod g.z)), .v (.int .i64 (((i + 2 * k : Nat) : Int).tmod (g.d + 1) - 1)), .sl 1 8 fun j => [[AV.v (.int .u8 fill.toNat)], [.v (.int .u8 (IntKind.u8.wrap i))], [.v (.int .u8 (IntKind.u8.wrap k))], [.v (.int .u8 1)], [.v (.int .u8 2)], [.v (.int .u8 3)], [.v (.int .u8 4)], [.v (.int .u8 5)]].getD j []] (imgC (logImg g fill i k)) := by
  have e : ¬ (i + k) % 4 = 3 := by
    rw [Int.tmod_eq_emod_of_nonneg (by omega)] at t
    omega
  rw [logImg, if_neg e, u8_nat, u8_nat]
  exact ⟨fun _ _ h => h, fun _ _ h => h, bytes_sub [fill, UInt8.ofNat i, UInt8.ofNat k, 1, 2, 3, 4, 5] rfl rfl, trivial⟩
set_option maxRecDepth 100000 in
theorem log_fn16 (g : Geo) (a : An) (sizes : List Int) (fill : UInt8) (hg : okG g = true) (ha : anOk g a = true) (hs : a.seq ≤ 1000000) (hl : sizes.length ≤ 40) : Fn Tryd.prog 29 [.ag (geoC g), .ag (anC a), iA sizes, .v (.int .u8 fill.toNat)] fun r => r = txsA (logM g a fill sizes 0 a.pos 0) := by
  obtain ⟨h1, h2, h3, h4, h5⟩ := okG_iff.1 hg
  have hq := anOk_seq ha
  refine Fn.of tys_ok Tryd.func29 rfl rfl (Nat.le_of_ble_eq_true rfl) ?_
  conv => whnf
  generalize hR : logM g a fill sizes 0 a.pos 0 = R
  refine aLoop.rule (Nat × Int × Int × List Tx × List (List AV)) (fun z => ([(2, iA sizes), (3, .v (.int .u8 fill.toNat)), (4, .bp 0 0), (5, .bp 1 0), (9, .ow 2 z.2.2.2.2.length), (10, .v (.int .i64 z.2.1)), (11, .v (.int .i64 z.2.2.1)), (12, .v (.int .i64 z.1))], [.box 23 (geoC g), .box 26 (anC a), .row 84 4 z.2.2.2.2]))
    (fun z => z.1 ≤ sizes.length ∧ z.2.2.2.1 ++ logM g a fill (sizes.drop z.1) z.1 z.2.1 z.2.2.1 = R ∧ (0 ≤ z.2.1 ∧ z.2.1 < g.sl) ∧ (0 ≤ z.2.2.1 ∧ z.2.2.1 ≤ g.sl) ∧ z.2.2.2.1.length = z.1 ∧ SubLL z.2.2.2.2 (z.2.2.2.1.map txC))
    (fun z => sizes.length - z.1) (0, a.pos, 0, [], []) ⟨Nat.zero_le _, hR, hq.2, show (0 : Int) ≤ 0 ∧ (0 : Int) ≤ g.sl by omega, rfl, trivial⟩ ⟨[(9, 84, 4)], ⟨rfl, rfl, trivial⟩, ⟨rfl, rfl, rfl, rfl, rfl, rfl, rfl, rfl, trivial⟩, ⟨rfl, rfl, rfl, trivial⟩, rfl, rfl, rfl⟩ ?_
  rintro ⟨i, pos, used, l, rl⟩ ⟨b1, b2, b3, b4, b5, b6⟩
  dsimp only at b1 b2 b3 b4 b5 b6 ⊢
  have b7 : rl.length = l.length := by have := b6.len; rwa [List.length_map] at this
  conv => whnf
  refine boolI (fun c1 => ?_) (fun c1 => ?_) <;> (repeat rw [Int.toNat_natCast] at c1) <;> conv => whnf
  · have hd : sizes.drop i = sizes.getD i 0 :: sizes.drop (i + 1) := by
      rw [List.drop_eq_getElem_cons c1, List.getD_eq_getElem?_getD, List.getElem?_eq_getElem c1]
      rfl
    rw [hd] at b2
    have hn := nImg_in (sizes.getD i 0)
    have wn : IntKind.i64.wrap (1 + IntKind.i64.wrap ((IntKind.u64.wrap (sizes.getD i 0)).tmod 5)) = (nImg (sizes.getD i 0) : Nat) := by
      have h0 : 0 ≤ IntKind.u64.wrap (sizes.getD i 0) := by rw [IntKind.wrap_u64]; omega
      have h1 := Int.tmod_nonneg 5 h0
      have h2 := Int.tmod_lt_of_pos (IntKind.u64.wrap (sizes.getD i 0)) (show (0 : Int) < 5 by decide)
      unfold nImg
      rw [IntKind.wrap_i64, IntKind.wrap_i64]
      omega
    unfold logM at b2
    generalize nImg (sizes.getD i 0) = n at hn wn b2
    refine ⟨by omega, ?_⟩
    conv => whnf
    refine And.intro (by decide) ?_
    conv => whnf
    rw [Int.toNat_natCast, wn]
    have w1 : IntKind.i64.wrap (used + n) = used + n := by rw [IntKind.wrap_i64]; omega
    have w2 : IntKind.i64.wrap (used + n + 1) = used + n + 1 := by rw [IntKind.wrap_i64]; omega
    rw [w1, w2]
    conv => whnf
    have w3 : IntKind.i64.wrap (a.seq + rl.length) = a.seq + i := by rw [IntKind.wrap_i64]; omega
    have w4 : IntKind.i64.wrap ((n : Int) + 1) = n + 1 := by rw [IntKind.wrap_i64]; omega
    refine boolI (fun c2 => ?_) (fun c2 => ?_) <;> (repeat rw [Int.toNat_natCast] at c2) <;> conv => whnf
    · rw [if_pos c2, List.append_nil] at b2
      subst b2
      refine And.intro rfl ?_
      conv => whnf
      exact ⟨txsA l, rows_sub l b7 rfl b6, rfl⟩
    · rw [if_neg (by omega)] at b2
      rw [w3, w4]
      refine aLoop.rule (Nat × List (List AV)) (fun z => ([(2, iA sizes), (3, .v (.int .u8 fill.toNat)), (4, .bp 0 0), (5, .bp 1 0), (9, .ow 2 rl.length), (10, .v (.int .i64 pos)), (11, .v (.int .i64 used)), (12, .v (.int .i64 i)), (13, .v (.int .i64 n)), (14, .bp 3 0), (15, .v (.int .i64 z.1))], [.box 23 (geoC g), .box 26 (anC a), .row 84 4 rl, .box 84 [.v (.int .i64 (a.seq + i)), .v (.int .i64 pos), .v (.int .i64 (n + 1)), .ow 4 z.2.length], .row 32 3 z.2]))
        (fun z => z.1 ≤ n ∧ SubLL z.2 (((List.range z.1).map (logImg g fill i)).map imgC)) (fun z => n - z.1) (0, []) ⟨Nat.zero_le _, trivial⟩ ⟨[(1003003, 32, 3)], ⟨rfl, rfl, trivial⟩, ⟨rfl, rfl, rfl, rfl, rfl, rfl, rfl, rfl, rfl, rfl, rfl, trivial⟩, ⟨rfl, rfl, rfl, rfl, rfl, trivial⟩, rfl, rfl, rfl⟩ ?_
      rintro ⟨k, im⟩ ⟨hk, hm⟩
      dsimp only at hk hm ⊢
      have hil : im.length = k := by have := hm.len; simpa using this
      conv => whnf
      have v1 : IntKind.i64.wrap ((i : Int) + k) = ((i + k : Nat) : Int) := by rw [IntKind.wrap_i64]; omega
      have v2 : IntKind.i64.wrap (2 * (k : Int)) = ((2 * k : Nat) : Int) := by rw [IntKind.wrap_i64]; omega
      have v3 : IntKind.i64.wrap ((i : Int) + ((2 * k : Nat) : Int)) = ((i + 2 * k : Nat) : Int) := by rw [IntKind.wrap_i64]; omega
      have v5 : IntKind.i64.wrap (((i + 2 * k : Nat) : Int).tmod (g.d + 1) - 1) = ((i + 2 * k : Nat) : Int).tmod (g.d + 1) - 1 := by
        have q1 := Int.tmod_nonneg (g.d + 1) (show 0 ≤ ((i + 2 * k : Nat) : Int) by omega)
        have q2 := Int.tmod_lt_of_pos ((i + 2 * k : Nat) : Int) (show 0 < g.d + 1 by omega)
        rw [IntKind.wrap_i64]; omega
      have v4 : IntKind.i64.wrap (g.d + 1) = g.d + 1 := by rw [IntKind.wrap_i64]; omega
      refine boolI (fun c3 => ?_) (fun c3 => ?_) <;> (repeat rw [Int.toNat_natCast] at c3) <;> conv => whnf
      · have t0 := tab0_fn g hg
        have t1 := tabB_fn (tab0 g) (by rw [tab0, List.length_replicate]; omega) (fun e he => by rw [List.eq_of_mem_replicate he]; decide +kernel)
        refine aSeq.go ?_
        conv => whnf
        apply aDraw.treeK 0 tys_ok mixed (.one 0 (.one 1 (.one 2 (.one 3 (.one 4 (.one 5 (.one 6 (.one 7 (.one 8 (.one 9 (.one 10 (.one 11 (.one 12 (.one 13 (.one 14 (.one 15 (.one 16 (.one 17 (.one 18 (.one 19 (.two 20 (.one 21 (.one 22 (.one 23 .fin))) 22 (.one 20 (.one 21 (.one 23 .fin)))))))))))))))))))))))) (by kernel_rfl)
        conv => whnf
        repeat' (first | (refine And.intro (by first | omega | exact of_decide_eq_true rfl) ?_; conv => whnf) | (refine And.intro ?_ ?_ <;> conv => whnf) | fail)
        all_goals
          refine aSeq.go ?_
          conv => whnf
          rw [v1]
          conv => whnf
          refine And.intro (by decide) ?_
          conv => whnf
          refine boolI (fun t => ?_) (fun t => ?_) <;> (repeat rw [Int.toNat_natCast] at t) <;> conv => whnf
          · refine aDraw.of tys_ok mixed [0, 1, 2, 3, 4, 5, 6, 7, 8, 9, 10] (by kernel_rfl) ?_
            conv => whnf
            repeat' (first | (refine aSeq.go ?_; conv => whnf) | (refine boolI (fun _ => ?_) (fun _ => ?_) <;> conv => whnf) | (refine Fn.closed (t0) rfl ?_; rintro _ rfl; conv => whnf) | (refine Fn.closed (t1) rfl ?_; rintro _ rfl; conv => whnf) | (refine And.intro (by first | omega | exact of_decide_eq_true rfl) ?_; conv => whnf) | fail)
            rw [v1]
            refine ⟨(k + 1, im ++ [imgC ⟨((i + k : Nat) : Int).tmod g.z, 255, tblB (tab0 g)⟩]), ⟨by dsimp only; omega, ?_⟩, by dsimp only; omega, [], trivial, ⟨rfl, rfl, rfl, rfl, rfl, rfl, rfl, rfl, rfl, rfl, wsucc (by omega), trivial⟩, ⟨rfl, rfl, rfl, by rw [List.length_append]; rfl, rfl, trivial⟩, rfl, rfl, rfl⟩
            rw [List.range_succ, List.map_append, List.map_append]
            exact SubLL.app (img_tab t) hm
          · repeat' (first | (refine aSeq.go ?_; conv => whnf) | (refine boolI (fun _ => ?_) (fun _ => ?_) <;> conv => whnf) | (refine Fn.closed (t0) rfl ?_; rintro _ rfl; conv => whnf) | (refine And.intro (by first | omega | exact of_decide_eq_true rfl) ?_; conv => whnf) | fail)
            rw [v2, v3, v4, v5]
            refine ⟨(k + 1, im ++ [[.v (.int .i64 (((i + k : Nat) : Int).tmod g.z)), .v (.int .i64 (((i + 2 * k : Nat) : Int).tmod (g.d + 1) - 1)), .sl 1 8 fun j => [[.v (.int .u8 fill.toNat)], [.v (.int .u8 (IntKind.u8.wrap i))], [.v (.int .u8 (IntKind.u8.wrap k))], [.v (.int .u8 1)], [.v (.int .u8 2)], [.v (.int .u8 3)], [.v (.int .u8 4)], [.v (.int .u8 5)]].getD j []]]), ⟨by dsimp only; omega, ?_⟩, by dsimp only; omega, [], trivial, ⟨rfl, rfl, rfl, rfl, rfl, rfl, rfl, rfl, rfl, rfl, wsucc (by omega), trivial⟩, ⟨rfl, rfl, rfl, by rw [List.length_append]; rfl, rfl, trivial⟩, rfl, rfl, rfl⟩
            rw [List.range_succ, List.map_append, List.map_append]
            exact SubLL.app (img_plain t) hm
      · refine And.intro rfl ?_
        conv => whnf
        repeat' (first | (refine And.intro (by first | rfl | omega) ?_; conv => whnf) | fail)
        have ek : k = n := by omega
        subst ek
        have w5 : IntKind.i64.wrap (pos + k) = pos + k := by rw [IntKind.wrap_i64]; omega
        have w6 : IntKind.i64.wrap (pos + k + 1) = pos + k + 1 := by rw [IntKind.wrap_i64]; omega
        rw [w1, w2, w5, w6]
        have hmm := Int.tmod_lt_of_pos (pos + k + 1) (show 0 < g.sl by omega)
        have hm0 := Int.tmod_nonneg g.sl (show 0 ≤ pos + k + 1 by omega)
        refine ⟨(i + 1, (pos + k + 1).tmod g.sl, used + k + 1, l ++ [logTx g a fill i pos k], rl ++ [[.v (.int .i64 (a.seq + i)), .v (.int .i64 pos), .v (.int .i64 (k + 1)), .sl 3 im.length fun j => im.getD j []]]), ⟨by dsimp only; omega, ?_, ⟨hm0, hmm⟩, by dsimp only; omega, by dsimp only; rw [List.length_append]; simp only [List.length_cons, List.length_nil]; omega, ?_⟩, by dsimp only; omega, [], trivial, ⟨rfl, rfl, rfl, rfl, ?_, rfl, rfl, wsucc (by omega), trivial⟩, ⟨rfl, rfl, rfl, trivial⟩, rfl, rfl, rfl⟩
        · dsimp only
          rw [List.append_assoc]
          exact b2
        · dsimp only
          rw [List.map_append]
          refine SubLL.app ?_ b6
          refine And.intro (fun _ _ h => h) (And.intro (fun _ _ h => h) (And.intro (fun _ _ h => h) (And.intro ?_ trivial)))
          exact rows_sub (f := imgC) ((List.range k).map (logImg g fill i)) (by rw [hil]; simp) rfl hm
        · rw [List.length_append]
          rfl
  · have ei : i = sizes.length := by omega
    refine And.intro rfl ?_
    conv => whnf
    subst ei
    rw [List.drop_length, logM, List.append_nil] at b2
    subst b2
    exact ⟨txsA l, rows_sub l b7 rfl b6, rfl⟩
end Go.Proofs.YteecmgonbdbhdaaDoor.A
end

/-
Plain laws on bits that are turned about, and on the sum of what was turned: no turning of a burst of 32 bits goes unseen.
-/
section
namespace Go.Proofs.YteecmgonbdbhdaaDoor

/-- One bit turned about. -/
def flipB (b : List UInt8) (k : Nat) : List UInt8 := b.modify (k / 8) fun x => x ^^^ UInt8.ofNat (2 ^ (k % 8))
theorem flipB_length (b : List UInt8) (k : Nat) : (flipB b k).length = b.length := List.length_modify _ _ _
/-- The first i bits that p picks turned about, from bit a on. -/
def flipN (p : Nat → Bool) (a : Nat) (b : List UInt8) : Nat → List UInt8
  | 0 => b
  | i + 1 => if p i && decide (a + i < 8 * b.length) then flipB (flipN p a b i) (a + i) else flipN p a b i
theorem flipN_length (p : Nat → Bool) (a : Nat) (b : List UInt8) (i : Nat) : (flipN p a b i).length = b.length := by
  induction i with
  | zero => rfl
  | succ i ih => unfold flipN; split; rw [flipB_length, ih]; exact ih
/-- The bits that are turned, as one number. -/
def fX (bs : Int) : Nat := if (bs % 4294967296).toNat % 2 = 0 then (bs % 4294967296).toNat + 1 else (bs % 4294967296).toNat
theorem fX_lt (bs : Int) : fX bs < 4294967296 := by unfold fX; split <;> omega
theorem fX_odd (bs : Int) : fX bs % 2 = 1 := by unfold fX; split <;> omega
def flipT (b : List UInt8) (bit bs : Int) : List UInt8 := flipN (fun i => decide (fX bs / 2 ^ i % 2 = 1)) (bit % (8 * (b.length : Int))).toNat b 32
theorem flipT_length (b : List UInt8) (bit bs : Int) : (flipT b bit bs).length = b.length := flipN_length _ _ _ _
theorem flipT_nil (bit bs : Int) : flipT [] bit bs = [] := List.eq_nil_of_length_eq_zero (flipT_length _ _ _)

theorem stepsC_zero : ∀ k, stepsC k 0 = 0
  | 0 => rfl
  | k + 1 => by rw [stepsC, stepsC_zero k]; decide
theorem stepC_ne {r : Nat} (h : r < 4294967296) (h0 : r ≠ 0) : stepC r ≠ 0 := by
  unfold stepC
  intro e
  rcases Nat.mod_two_eq_zero_or_one r with h1 | h1
  · rw [if_neg (by omega), Nat.xor_zero] at e; omega
  · rw [if_pos h1] at e
    have : r / 2 = polyN := by
      have h3 : (r / 2 ^^^ polyN) ^^^ polyN = r / 2 := by rw [Nat.xor_assoc, Nat.xor_self, Nat.xor_zero]
      rw [e, Nat.zero_xor] at h3
      exact h3.symm
    simp only [polyN] at this
    omega
theorem stepsC_ne : ∀ (k : Nat) {r : Nat}, r < 4294967296 → r ≠ 0 → stepsC k r ≠ 0
  | 0, _, _, h0 => h0
  | k + 1, _, h, h0 => stepC_ne (stepsC_lt k h) (stepsC_ne k h h0)
theorem stepsC_add : ∀ (j k r : Nat), stepsC (j + k) r = stepsC j (stepsC k r)
  | 0, k, r => by rw [Nat.zero_add]; rfl
  | j + 1, k, r => by rw [show j + 1 + k = (j + k) + 1 by omega, stepsC, stepsC, stepsC_add j k r]
theorem stepsC_two : ∀ (k x : Nat), stepsC k (2 ^ k * x) = x
  | 0, x => by simp [stepsC]
  | k + 1, x => by
    rw [stepsC_succ, show 2 ^ (k + 1) * x = 2 * (2 ^ k * x) by rw [Nat.pow_succ]; rw [Nat.mul_comm (2 ^ k) 2, Nat.mul_assoc], stepC_double, stepsC_two k x]
theorem xor_swap (x p q : Nat) : (x ^^^ p) ^^^ q = (x ^^^ q) ^^^ p := by rw [Nat.xor_assoc, Nat.xor_comm p q, ← Nat.xor_assoc]
/-- What the start of a reckoning adds. -/
theorem foldC_start : ∀ (b : List UInt8) (r s : Nat), foldC (r ^^^ s) b = foldC r b ^^^ stepsC (8 * b.length) s
  | [], r, s => rfl
  | c :: b, r, s => by
    have e : foldC (r ^^^ s) (c :: b) = foldC (eightC (r ^^^ s ^^^ c.toNat)) b := rfl
    have e2 : foldC r (c :: b) = foldC (eightC (r ^^^ c.toNat)) b := rfl
    rw [e, e2, xor_swap, show eightC (r ^^^ c.toNat ^^^ s) = eightC (r ^^^ c.toNat) ^^^ stepsC 8 s from stepsC_xor 8 _ _, foldC_start b, ← stepsC_add, List.length_cons, Nat.mul_add]
/-- What a turned bit adds. -/
theorem foldC_flipB : ∀ (b : List UInt8) (r k : Nat), k < 8 * b.length → foldC r (flipB b k) = foldC r b ^^^ stepsC (8 * b.length - k) 1
  | [], _, _, h => by simp at h
  | c :: b, r, k, h => by
    have e2 : foldC r (c :: b) = foldC (eightC (r ^^^ c.toNat)) b := rfl
    by_cases hk : k < 8
    · have e : flipB (c :: b) k = (c ^^^ UInt8.ofNat (2 ^ (k % 8))) :: b := by
        unfold flipB
        rw [show k / 8 = 0 by omega]
        rfl
      have hp : (2 : Nat) ^ k < 256 := by
        have := Nat.pow_lt_pow_right (a := 2) (by omega) hk
        omega
      rw [e, show foldC r ((c ^^^ UInt8.ofNat (2 ^ (k % 8))) :: b) = foldC (eightC (r ^^^ (c ^^^ UInt8.ofNat (2 ^ (k % 8))).toNat)) b from rfl, UInt8.toNat_xor, Nat.mod_eq_of_lt hk, UInt8.toNat_ofNat_of_lt' hp, ← Nat.xor_assoc,
        show eightC (r ^^^ c.toNat ^^^ 2 ^ k) = eightC (r ^^^ c.toNat) ^^^ stepsC 8 (2 ^ k) from stepsC_xor 8 _ _, foldC_start b, e2, ← stepsC_add, List.length_cons]
      congr 1
      have := stepsC_two k 1
      rw [Nat.mul_one] at this
      rw [show 8 * b.length + 8 = (8 * (b.length + 1) - k) + k by omega, stepsC_add, this]
    · have e : flipB (c :: b) k = c :: flipB b (k - 8) := by
        unfold flipB
        rw [show k / 8 = (k - 8) / 8 + 1 by omega, List.modify_succ_cons, show k % 8 = (k - 8) % 8 by omega]
      simp only [List.length_cons] at h
      rw [e, show foldC r (c :: flipB b (k - 8)) = foldC (eightC (r ^^^ c.toNat)) (flipB b (k - 8)) from rfl, foldC_flipB b _ _ (by omega), e2, List.length_cons]
      congr 2
      omega
/-- The bits of p below i, as one number, of which so many have room. -/
def wordN (p : Nat → Bool) (d : Nat) : Nat → Nat
  | 0 => 0
  | i + 1 => if p i && decide (i < d) then wordN p d i ^^^ 2 ^ i else wordN p d i
theorem wordN_lt (p : Nat → Bool) (d : Nat) : ∀ i, wordN p d i < 2 ^ i
  | 0 => by show 0 < 1; decide
  | i + 1 => by
    have := wordN_lt p d i
    unfold wordN
    have h2 : (2 : Nat) ^ i < 2 ^ (i + 1) := Nat.pow_lt_pow_right (by omega) (by omega)
    split
    · exact Nat.xor_lt_two_pow (by omega) h2
    · omega
theorem wordN_bit (p : Nat → Bool) (d : Nat) (hp : p 0 = true) (hd : 0 < d) : ∀ i, 0 < i → (wordN p d i) % 2 = 1
  | 1, _ => by simp [wordN, hp, hd]
  | i + 2, _ => by
    have ih := wordN_bit p d hp hd (i + 1) (by omega)
    unfold wordN
    split
    · rw [xor_odd, Nat.pow_succ]; omega
    · exact ih
theorem foldC_flipN (p : Nat → Bool) (a : Nat) (b : List UInt8) (r : Nat) (ha : a < 8 * b.length) : ∀ i, foldC r (flipN p a b i) = foldC r b ^^^ stepsC (8 * b.length - a) (wordN p (8 * b.length - a) i)
  | 0 => by simp [flipN, wordN, stepsC_zero]
  | i + 1 => by
    have ih := foldC_flipN p a b r ha i
    unfold flipN wordN
    have hc : (p i && decide (a + i < 8 * b.length)) = (p i && decide (i < 8 * b.length - a)) := by
      congr 1
      exact decide_eq_decide.2 (by omega)
    rw [hc]
    split
    · rename_i h
      simp only [Bool.and_eq_true, decide_eq_true_eq] at h
      rw [foldC_flipB _ _ _ (by rw [flipN_length]; omega), ih, flipN_length, stepsC_xor, Nat.xor_assoc]
      congr 2
      have := stepsC_two i 1
      rw [Nat.mul_one] at this
      rw [show 8 * b.length - a = (8 * b.length - (a + i)) + i by omega, stepsC_add, this]
    · exact ih
/-- Four bytes that a reckoning ends with. -/
theorem foldC_word : ∀ (t : List UInt8) (s : Nat), foldC s t = stepsC (8 * t.length) (s ^^^ leN t)
  | [], s => by simp [foldC, leN, stepsC]
  | c :: t, s => by
    have e2 : foldC s (c :: t) = foldC (eightC (s ^^^ c.toNat)) t := rfl
    have h1 : leN (c :: t) = c.toNat ^^^ 256 * leN t := by
      have hc : c.toNat < 2 ^ 8 := c.toNat_lt
      have h := Nat.two_pow_add_eq_or_of_lt hc (leN t)
      have h2 : 2 ^ 8 * leN t ||| c.toNat = c.toNat ^^^ 2 ^ 8 * leN t := by
        apply Nat.eq_of_testBit_eq
        intro i
        rw [Nat.testBit_or, Nat.testBit_xor]
        by_cases hi : i < 8
        · rw [Nat.testBit_two_pow_mul]
          simp [show ¬ 8 ≤ i by omega]
        · have : c.toNat.testBit i = false := Nat.testBit_lt_two_pow (Nat.lt_of_lt_of_le hc (Nat.pow_le_pow_right (by omega) (by omega)))
          rw [this]
          simp
      rw [← h2, ← h]
      simp only [leN]
      omega
    rw [e2, foldC_word t, h1, List.length_cons, Nat.mul_add, stepsC_add]
    congr 1
    rw [← Nat.xor_assoc, stepsC_xor]
    congr 1
    exact (eightC_high _).symm
theorem ones_sub {x : Nat} (h : x < 4294967296) : 4294967295 - x = 4294967295 ^^^ x := (not_u32 x h).symm
/-- What is told by the sum at its end has one sum. -/
theorem sealed_fold {b : List UInt8} (h4 : 4 ≤ b.length) (h : leN (b.drop (b.length - 4)) = sumC (b.take (b.length - 4))) : foldC 4294967295 b = stepsC 32 4294967295 := by
  have e : b = b.take (b.length - 4) ++ b.drop (b.length - 4) := (List.take_append_drop _ _).symm
  have hl : (b.drop (b.length - 4)).length = 4 := by rw [List.length_drop]; omega
  have hlt : foldC 4294967295 (b.take (b.length - 4)) < 4294967296 := foldC_lt _ (by decide)
  have hap : ∀ x y : List UInt8, foldC 4294967295 (x ++ y) = foldC (foldC 4294967295 x) y := fun x y => by simp [foldC]
  conv => lhs; rw [e]
  rw [hap, foldC_word, hl, h, sumC, ones_sub hlt]
  congr 1
  rw [Nat.xor_comm 4294967295, ← Nat.xor_assoc, Nat.xor_self, Nat.zero_xor]
/-- Of right bytes no burst of 32 bits goes unseen. -/
theorem flipT_seen {b : List UInt8} (h4 : 4 ≤ b.length) (h : leN (b.drop (b.length - 4)) = sumC (b.take (b.length - 4))) (bit bs : Int) :
    leN ((flipT b bit bs).drop ((flipT b bit bs).length - 4)) ≠ sumC ((flipT b bit bs).take ((flipT b bit bs).length - 4)) := by
  intro h'
  have h1 := sealed_fold h4 h
  have h2 := sealed_fold (b := flipT b bit bs) (by rw [flipT_length]; exact h4) h'
  have ha : (bit % (8 * (b.length : Int))).toNat < 8 * b.length := by
    have := Int.emod_lt_of_pos bit (show (0 : Int) < 8 * (b.length : Int) by omega)
    have := Int.emod_nonneg bit (show (8 * (b.length : Int)) ≠ 0 by omega)
    omega
  unfold flipT at h2
  rw [foldC_flipN _ _ _ _ ha, h1] at h2
  have h3 : stepsC (8 * b.length - (bit % (8 * (b.length : Int))).toNat) (wordN (fun i => decide (fX bs / 2 ^ i % 2 = 1)) (8 * b.length - (bit % (8 * (b.length : Int))).toNat) 32) ≠ 0 := by
    refine stepsC_ne _ (Nat.lt_of_lt_of_le (wordN_lt _ _ _) (by decide)) ?_
    have := wordN_bit (fun i => decide (fX bs / 2 ^ i % 2 = 1)) (8 * b.length - (bit % (8 * (b.length : Int))).toNat) (by simp [fX_odd]) (by omega) 32 (by decide)
    omega
  apply h3
  have h5 := congrArg (fun x => stepsC 32 4294967295 ^^^ x) h2
  simp only [← Nat.xor_assoc, Nat.xor_self, Nat.zero_xor] at h5
  exact h5
/-- A sector's bytes of which bits were turned are none any more. -/
theorem openE_flip {b : List UInt8} (h : openE b = 0) (bit bs : Int) : openE (flipT b bit bs) = 5 := by
  unfold openE at h
  split at h
  · cases h
  · rename_i hl
    split at h
    · cases h
    · rename_i hs
      have := flipT_seen (b := b) (by omega) (Decidable.not_not.1 hs) bit bs
      unfold openE
      rw [if_neg (by rw [flipT_length]; exact hl), if_pos this]
end Go.Proofs.YteecmgonbdbhdaaDoor
end

/-
Package casemateref01: bits turned about.
-/
section
namespace Go.Proofs.YteecmgonbdbhdaaDoor.A
open Go.RowKit

theorem tmod_emod {a n : Int} (hn : 0 < n) : (if a.tmod n < 0 then a.tmod n + n else a.tmod n) = a % n := by
  have b1 := Int.tmod_lt_of_pos a hn
  have b2 := Int.lt_tmod_of_pos a hn
  split
  · have e1 : (a.tmod n + n) % n = a % n := by
      rw [Int.add_emod_right, Int.tmod_eq_emod]
      split
      · rw [show ((0 : Nat) : Int) = 0 from rfl, Int.sub_zero, Int.emod_emod_of_dvd _ (Int.dvd_refl n)]
      · rw [Int.sub_emod, Int.emod_emod_of_dvd _ (Int.dvd_refl n), show (n.natAbs : Int) = n by omega, Int.emod_self, Int.sub_zero, Int.emod_emod_of_dvd _ (Int.dvd_refl n)]
    rw [← e1, Int.emod_eq_of_lt (by omega) (by omega)]
  · rename_i hr
    have e1 := Int.tmod_eq_emod (a := a) (b := n)
    rw [Int.tmod_eq_emod]
    split
    · omega
    · rename_i hc
      rw [if_neg hc] at e1
      have := Int.emod_lt_of_pos a hn
      omega
theorem mod_fn (a n : Int) (hn : 0 < n) (hn2 : n ≤ 4611686018427387904) : Fn Tryd.prog 59 [.v (.int .i64 a), .v (.int .i64 n)] fun r => r = .v (.int .i64 (a % n)) := by
  have b1 := Int.tmod_lt_of_pos a hn
  have b2 := Int.lt_tmod_of_pos a hn
  have he := tmod_emod (a := a) hn
  refine Fn.of tys_ok Tryd.func59 rfl rfl (Nat.le_of_ble_eq_true rfl) ?_
  conv => whnf
  refine And.intro (by omega) ?_
  conv => whnf
  repeat' (first | (refine aSeq.go ?_; conv => whnf) | (refine boolI (fun _ => ?_) (fun _ => ?_) <;> conv => whnf) | (refine And.intro (by first | omega | exact of_decide_eq_true rfl) ?_; conv => whnf) | fail)
  all_goals refine ⟨_, fun _ _ h => h, ?_⟩
  · rw [if_pos (by assumption)] at he
    rw [wi (by omega), he]
  · rw [if_neg (by omega)] at he
    rw [he]
def bR (b : List UInt8) : List (List AV) := b.map fun x => [.v (.int .u8 x.toNat)]
theorem bR_get {b : List UInt8} {i : Nat} (h : i < b.length) : (bR b).getD i [] = [.v (.int .u8 (b.getD i 0).toNat)] := map_getD (d := 0) h
theorem bR_set (b : List UInt8) (i : Nat) (y : UInt8) : (bR b).set i [.v (.int .u8 y.toNat)] = bR (b.set i y) := by simp [bR, List.map_set]
theorem bR_sub (b : List UInt8) (c : Ctx) (u : Value) (h : Rd (.sl 1 b.length fun i => (bR b).getD i []) c u) : Rd (bA b) c u :=
  Rd.congr rfl (fun _ hi => map_getD (d := 0) hi) h
theorem bR_sub' {b : List UInt8} {n : Nat} (hn : n = b.length) (c : Ctx) (u : Value) (h : Rd (.sl 1 n fun i => (bR b).getD i []) c u) : Rd (bA b) c u := by
  subst hn; exact bR_sub b c u h
theorem bR_range (b : List UInt8) : (List.range b.length).map (fun i => [AV.v (.int .u8 (b.getD i 0).toNat)]) = bR b := by
  apply List.ext_getElem
  · simp [bR]
  · intro i h1 h2
    simp only [List.length_map, List.length_range] at h1
    simp [bR, List.getD_eq_getElem?_getD, List.getElem?_eq_getElem h1]
theorem twin_fno (b : List UInt8) (hb : b.length ≤ 1000000000) : FnO Tryd.prog 31 [bA b] fun r R => r = .ow 0 b.length ∧ R = [.row 5 1 (bR b)] := by
  refine FnO.of tys_ok Tryd.func31 rfl rfl (Nat.le_of_ble_eq_true rfl) ?_
  conv => whnf
  refine ⟨hb, ?_⟩
  conv => whnf
  exact ⟨rfl, by rw [bR_range]⟩
theorem u8_xor (x : UInt8) (z : Nat) (hz : z < 256) : IntKind.u8.wrap (BitVec.ofInt IntKind.u8.bits (x.toNat : Int) ^^^ BitVec.ofInt IntKind.u8.bits (z : Int)).toNat = ((x ^^^ UInt8.ofNat z).toNat : Int) := by
  show IntKind.u8.wrap (BitVec.ofInt 8 (x.toNat : Int) ^^^ BitVec.ofInt 8 (z : Int)).toNat = ((x ^^^ UInt8.ofNat z).toNat : Int)
  have hx := x.toNat_lt
  have h1 : (BitVec.ofInt 8 (x.toNat : Int)) = BitVec.ofNat 8 x.toNat := BitVec.ofInt_natCast _ _
  have h2 : (BitVec.ofInt 8 (z : Int)) = BitVec.ofNat 8 z := BitVec.ofInt_natCast _ _
  have h3 : x.toNat ^^^ z < 256 := Nat.xor_lt_two_pow (n := 8) hx hz
  rw [h1, h2, BitVec.toNat_xor, BitVec.toNat_ofNat, BitVec.toNat_ofNat, Nat.mod_eq_of_lt hx, Nat.mod_eq_of_lt hz, UInt8.toNat_xor, UInt8.toNat_ofNat_of_lt' hz, IntKind.wrap_u8]
  omega
theorem flipB_set (b : List UInt8) (k : Nat) (h : k / 8 < b.length) : flipB b k = b.set (k / 8) (b.getD (k / 8) 0 ^^^ UInt8.ofNat (2 ^ (k % 8))) := by
  rw [List.getD_eq_getElem?_getD, List.getElem?_eq_getElem h]
  unfold flipB
  apply List.ext_getElem?
  intro i
  rw [List.getElem?_modify, List.getElem?_set]
  split
  · subst_vars; simp [h]
  · simp
theorem flipN_stop (p : Nat → Bool) (a : Nat) (b : List UInt8) (k : Nat) (h : ∀ j, k ≤ j → p j = false ∨ 8 * b.length ≤ a + j) : ∀ n, k ≤ n → flipN p a b n = flipN p a b k := by
  intro n hn
  induction n with
  | zero => obtain rfl : k = 0 := by omega
            rfl
  | succ n ih =>
    by_cases hk : k = n + 1
    · rw [hk]
    · rw [flipN, if_neg, ih (by omega)]
      rcases h n (by omega) with h | h
      · simp [h]
      · simp; omega
set_option maxRecDepth 100000 in
theorem rflip_fn (b : List UInt8) (bit bs : Int) (hb : b.length ≤ 1000000) : Fn Tryd.prog 32 [bA b, .v (.int .i64 bit), .v (.int .i64 bs)] fun r => r = bA (flipT b bit bs) := by
  refine Fn.of tys_ok Tryd.func32 rfl rfl (Nat.le_of_ble_eq_true rfl) ?_
  conv => whnf
  refine FnO.call (twin_fno b (by omega)) rfl ?_
  rintro _ _ ⟨rfl, rfl⟩
  conv => whnf
  refine boolI (fun h0 => ?_) (fun h0 => ?_) <;> (repeat rw [Int.toNat_natCast] at h0) <;> conv => whnf
  · refine ⟨by simp [bR], ?_⟩
    conv => whnf
    have e : b = [] := List.eq_nil_of_length_eq_zero (by omega)
    subst e
    exact ⟨_, fun c u h => bR_sub [] c u h, by rw [flipT_nil]⟩
  have hn : b.length ≠ 0 := by omega
  have w8 : IntKind.i64.wrap (8 * (b.length : Int)) = 8 * b.length := wi (by omega)
  rw [w8]
  refine Fn.closed (mod_fn bit (8 * b.length) (by omega) (by omega)) rfl ?_
  rintro _ rfl
  conv => whnf
  refine Fn.closed (mod_fn bs 4294967296 (by omega) (by omega)) rfl ?_
  rintro _ rfl
  conv => whnf
  have a1 := Int.emod_lt_of_pos bit (show (0 : Int) < 8 * b.length by omega)
  have a2 := Int.emod_nonneg bit (show (8 * (b.length : Int)) ≠ 0 by omega)
  have b1 := Int.emod_lt_of_pos bs (show (0 : Int) < 4294967296 by omega)
  have b2 := Int.emod_nonneg bs (show (4294967296 : Int) ≠ 0 by omega)
  have hX : IntKind.i64.wrap ((fX bs : Nat) : Int) = (fX bs : Nat) := wi (by have := fX_lt bs; omega)
  refine aSeq.cut Unit (fun _ => ([(7, .ow 0 b.length), (8, .v (.int .i64 (bit % (8 * b.length)))), (9, .v (.int .i64 (fX bs : Nat)))], [.row 5 1 (bR b)])) (fun _ => True) ?_ ?_
  · conv => whnf
    refine And.intro (by decide) ?_
    conv => whnf
    refine boolI (fun hx => ?_) (fun hx => ?_) <;> (repeat rw [Int.toNat_natCast] at hx) <;> conv => whnf
    · rw [Int.tmod_eq_emod_of_nonneg b2] at hx
      have ex : IntKind.i64.wrap (bs % 4294967296 + 1) = (fX bs : Nat) := by
        rw [wi (by omega)]
        unfold fX
        rw [if_pos (by omega)]
        omega
      exact ⟨(), trivial, (Wk.plain (by repeat' first | exact trivial | exact rfl | refine And.intro ?_ ?_ | exact wsucc (by omega) | exact congrArg (fun n => AV.v (.int .i64 n)) ex) (by repeat' first | exact trivial | exact rfl | refine And.intro ?_ ?_ | exact wsucc (by omega) | exact congrArg (fun n => AV.v (.int .i64 n)) ex) rfl rfl rfl)⟩
    · rw [Int.tmod_eq_emod_of_nonneg b2] at hx
      have ex : bs % 4294967296 = (fX bs : Nat) := by
        unfold fX
        rw [if_neg (by omega)]
        omega
      exact ⟨(), trivial, (Wk.plain (by repeat' first | exact trivial | exact rfl | refine And.intro ?_ ?_ | exact wsucc (by omega) | exact congrArg (fun n => AV.v (.int .i64 n)) ex) (by repeat' first | exact trivial | exact rfl | refine And.intro ?_ ?_ | exact wsucc (by omega) | exact congrArg (fun n => AV.v (.int .i64 n)) ex) rfl rfl rfl)⟩
  rintro - -
  conv => whnf
  have hXl := fX_lt bs
  have hR : flipN (fun i => decide (fX bs / 2 ^ i % 2 = 1)) (bit % (8 * (b.length : Int))).toNat b 32 = flipT b bit bs := rfl
  obtain ⟨X, eX⟩ : ∃ X, X = fX bs := ⟨_, rfl⟩
  obtain ⟨A, eA⟩ : ∃ A : Nat, (A : Int) = bit % (8 * b.length) := ⟨(bit % (8 * (b.length : Int))).toNat, by omega⟩
  rw [← eX, ← eA, Int.toNat_natCast] at hR
  rw [← eX] at hXl
  rw [← eX, ← eA]
  refine aLoop.rule Nat (fun k => ([(7, .ow 0 b.length), (9, .v (.int .i64 (X / 2 ^ k : Nat))), (10, .v (.int .i64 ((A + k : Nat) : Int)))], [.row 5 1 (bR (flipN (fun i => decide (X / 2 ^ i % 2 = 1)) A b k))])) (fun k => k ≤ 32) (fun k => 32 - k) 0 (Nat.zero_le _) (Wk.plain (by repeat' first | exact trivial | exact rfl | refine And.intro ?_ ?_ | exact wsucc (by omega) | exact congrArg (fun n => AV.v (.int .i64 n)) (by rw [Nat.pow_zero, Nat.div_one])) (by repeat' first | exact trivial | exact rfl | refine And.intro ?_ ?_ | exact wsucc (by omega) | exact congrArg (fun n => AV.v (.int .i64 n)) (by rw [Nat.pow_zero, Nat.div_one])) rfl rfl rfl) ?_
  intro k hk
  have hfl := flipN_length (fun i => decide (X / 2 ^ i % 2 = 1)) A b k
  have hnx : X / 2 ^ (k + 1) = X / 2 ^ k / 2 := by rw [Nat.pow_succ, Nat.div_div_eq_div_mul]
  have hA : A < 8 * b.length := by omega
  conv => whnf
  have stop : X / 2 ^ k = 0 ∨ 8 * b.length ≤ A + k → flipN (fun i => decide (X / 2 ^ i % 2 = 1)) A b k = flipT b bit bs := fun h => by
    rw [← hR]
    refine (flipN_stop _ _ _ _ (fun j hj => ?_) 32 hk).symm
    rcases h with h | h
    · refine .inl ?_
      have : X / 2 ^ j = 0 := by
        obtain ⟨d, rfl⟩ := Nat.exists_eq_add_of_le hj
        rw [Nat.pow_add, ← Nat.div_div_eq_div_mul, h, Nat.zero_div]
      simp [this]
    · exact .inr (by omega)
  refine boolI (fun h1 => ?_) (fun h1 => ?_) <;> (repeat rw [Int.toNat_natCast] at h1) <;> conv => whnf
  · rw [w8]
    refine boolI (fun h2 => ?_) (fun h2 => ?_) <;> (repeat rw [Int.toNat_natCast] at h2) <;> conv => whnf
    · have hk32 : k < 32 := by
        rcases Nat.lt_or_ge k 32 with h | h
        · exact h
        · have : X / 2 ^ k = 0 := Nat.div_eq_of_lt (Nat.lt_of_lt_of_le hXl (Nat.pow_le_pow_right (n := 2) (by omega) h))
          omega
      have e1 : IntKind.i64.wrap (((X / 2 ^ k : Nat) : Int).tdiv 2) = ((X / 2 ^ (k + 1) : Nat) : Int) := by
        rw [Int.tdiv_eq_ediv_of_nonneg (by omega), hnx]
        have := Nat.div_le_self X (2 ^ k)
        rw [wi (by omega)]
        omega
      have e2 : IntKind.i64.wrap (((A + k : Nat) : Int) + 1) = ((A + (k + 1) : Nat) : Int) := by
        rw [wi (by omega)]; omega
      refine aSeq.go ?_
      conv => whnf
      refine aSeq.cut Unit (fun _ => ([(7, .ow 0 b.length), (9, .v (.int .i64 (X / 2 ^ k : Nat))), (10, .v (.int .i64 ((A + k : Nat) : Int)))], [.row 5 1 (bR (flipN (fun i => decide (X / 2 ^ i % 2 = 1)) A b (k + 1)))])) (fun _ => True) ?_ ?_
      · conv => whnf
        refine And.intro (by decide) ?_
        conv => whnf
        have hq : (A + k) / 8 < b.length := by omega
        have hz : (2 : Nat) ^ ((A + k) % 8) < 256 := by
          have := Nat.pow_lt_pow_right (a := 2) (by omega) (show (A + k) % 8 < 8 by omega)
          omega
        refine boolI (fun h3 => ?_) (fun h3 => ?_) <;> (repeat rw [Int.toNat_natCast] at h3) <;> conv => whnf
        · rw [Int.tmod_eq_emod_of_nonneg (by omega)] at h3
          have hE : flipN (fun i => decide (X / 2 ^ i % 2 = 1)) A b (k + 1) = flipB (flipN (fun i => decide (X / 2 ^ i % 2 = 1)) A b k) (A + k) := by
            rw [flipN, if_pos]
            simp only [Bool.and_eq_true, decide_eq_true_eq]
            omega
          have eq : IntKind.i64.wrap (((A + k : Nat) : Int).tdiv 8) = (((A + k) / 8 : Nat) : Int) := by
            rw [Int.tdiv_eq_ediv_of_nonneg (by omega), wi (by omega)]
            omega
          have er : IntKind.u64.wrap (((A + k : Nat) : Int).tmod 8) = (((A + k) % 8 : Nat) : Int) := by
            rw [Int.tmod_eq_emod_of_nonneg (by omega), IntKind.wrap_u64]
            omega
          have es : IntKind.u8.wrap (1 * 2 ^ min ((((A + k) % 8 : Nat) : Int).toNat) IntKind.u8.bits) = ((2 ^ ((A + k) % 8) : Nat) : Int) := by
            rw [Int.toNat_natCast, show min ((A + k) % 8) IntKind.u8.bits = (A + k) % 8 from Nat.min_eq_left (by show _ ≤ 8; omega), Int.one_mul, IntKind.wrap_u8]
            have : ((2 ^ ((A + k) % 8) : Nat) : Int) = (2 : Int) ^ ((A + k) % 8) := by simp
            rw [← this]
            generalize 2 ^ ((A + k) % 8) = z at hz ⊢
            omega
          refine And.intro (by decide) ?_
          conv => whnf
          refine And.intro (by decide) ?_
          conv => whnf
          rw [eq]
          refine And.intro ⟨by omega, by omega⟩ ?_
          conv => whnf
          refine And.intro ⟨rfl, by simp [bR, hfl], by omega⟩ ?_
          conv => whnf
          rw [Int.toNat_natCast, bR_get (by rw [hfl]; omega)]
          conv => whnf
          refine And.intro (by decide) ?_
          conv => whnf
          rw [er]
          refine And.intro (by omega) ?_
          conv => whnf
          refine And.intro ⟨by omega, by omega⟩ ?_
          conv => whnf
          rw [es]
          refine And.intro ⟨rfl, by simp [bR, hfl], by omega⟩ ?_
          conv => whnf
          rw [Int.toNat_natCast, bR_get (by rw [hfl]; omega)]
          conv => whnf
          have ex := u8_xor ((flipN (fun i => decide (X / 2 ^ i % 2 = 1)) A b k).getD ((A + k) / 8) 0) (2 ^ ((A + k) % 8)) hz
          rw [ex, bR_set, ← flipB_set _ _ (by rw [hfl]; omega), ← hE]
          exact ⟨(), trivial, (Wk.plain (by repeat' first | exact trivial | exact rfl | refine And.intro ?_ ?_ | exact wsucc (by omega)) (by repeat' first | exact trivial | exact rfl | refine And.intro ?_ ?_ | exact wsucc (by omega)) rfl rfl rfl)⟩
        · rw [Int.tmod_eq_emod_of_nonneg (by omega)] at h3
          have hE : flipN (fun i => decide (X / 2 ^ i % 2 = 1)) A b (k + 1) = flipN (fun i => decide (X / 2 ^ i % 2 = 1)) A b k := by
            rw [flipN, if_neg]
            simp only [Bool.and_eq_true, decide_eq_true_eq]
            intro hh
            apply h3
            have := hh.1
            omega
          exact ⟨(), trivial, (Wk.plain (by repeat' first | exact trivial | exact rfl | refine And.intro ?_ ?_ | exact wsucc (by omega) | exact congrArg (fun l => AB.row _ _ (bR l)) hE) (by repeat' first | exact trivial | exact rfl | refine And.intro ?_ ?_ | exact wsucc (by omega) | exact congrArg (fun l => AB.row _ _ (bR l)) hE) rfl rfl rfl)⟩
      · rintro - -
        conv => whnf
        refine And.intro (by decide) ?_
        conv => whnf
        exact ⟨k + 1, by omega, by omega, (Wk.plain (by repeat' first | exact trivial | exact rfl | refine And.intro ?_ ?_ | exact wsucc (by omega) | exact congrArg (fun n => AV.v (.int .i64 n)) e1 | exact congrArg (fun n => AV.v (.int .i64 n)) e2) (by repeat' first | exact trivial | exact rfl | refine And.intro ?_ ?_ | exact wsucc (by omega) | exact congrArg (fun n => AV.v (.int .i64 n)) e1 | exact congrArg (fun n => AV.v (.int .i64 n)) e2) rfl rfl rfl)⟩
    · refine ⟨by simp [bR, hfl], ?_⟩
      conv => whnf
      rw [stop (.inr (by omega))]
      exact ⟨_, fun c u h => bR_sub' (by rw [flipT_length]) c u h, rfl⟩
  · refine ⟨by simp [bR, hfl], ?_⟩
    conv => whnf
    rw [stop (.inl (Nat.eq_zero_of_le_zero (Int.ofNat_le.1 h1)))]
    exact ⟨_, fun c u h => bR_sub' (by rw [flipT_length]) c u h, rfl⟩
end Go.Proofs.YteecmgonbdbhdaaDoor.A
end

/-
The law PairLeft.
-/
section
namespace Go.Proofs.YteecmgonbdbhdaaDoor.A
open Go.RowKit

def spoilT (x : Gt) (how bits : Int) : Gt × Bool :=
  if (IntKind.u64.wrap how).tmod 4 = 1 then (⟨6, []⟩, false) else if (IntKind.u64.wrap how).tmod 4 = 2 then (⟨0, flipT x.bytes bits bits⟩, false) else if (IntKind.u64.wrap how).tmod 4 = 3 then (⟨0, []⟩, false) else (x, true)
theorem spoil_fn (g : Geo) (x : Gt) (how bits : Int) (hx : x.bytes.length ≤ 1000000) : Fn Tryd.prog 27 [.ag (geoC g), .ag (gotC x), .v (.int .i64 how), .v (.int .i64 bits)] fun r => r = .tp [.ag (gotC (spoilT x how bits).1), .v (.bool (spoilT x how bits).2)] := by
  refine Fn.of tys_ok Tryd.func27 rfl rfl (Nat.le_of_ble_eq_true rfl) ?_
  conv => whnf
  refine And.intro (by decide) ?_
  conv => whnf
  have z : ∀ (e : Int) (b : Bool) (c : Ctx) (u : Value), Rd (.tp [.ag [.v (.int .i64 e), .v (.slice none 0 0)], .v (.bool b)]) c u → Rd (.tp [.ag (gotC ⟨e, []⟩), .v (.bool b)]) c u := fun e b c u h => by
    refine tp_sub ?_ c u h
    exact ⟨ag_sub ⟨fun _ _ h => h, nil_sl _ _, trivial⟩, fun _ _ h => h, trivial⟩
  refine boolI (fun t1 => ?_) (fun t1 => ?_) <;> (repeat rw [Int.toNat_natCast] at t1) <;> conv => whnf
  · exact ⟨_, z 6 false, by simp only [spoilT, if_pos t1]⟩
  refine boolI (fun t2 => ?_) (fun t2 => ?_) <;> (repeat rw [Int.toNat_natCast] at t2) <;> conv => whnf
  · refine Fn.closed (rflip_fn x.bytes bits bits hx) rfl ?_
    rintro _ rfl
    conv => whnf
    exact ⟨_, fun _ _ h => h, by simp only [spoilT, if_neg t1, if_pos t2]; rfl⟩
  refine boolI (fun t3 => ?_) (fun t3 => ?_) <;> (repeat rw [Int.toNat_natCast] at t3) <;> conv => whnf
  · exact ⟨_, z 0 false, by simp only [spoilT, if_neg t1, if_neg t2, if_pos t3]⟩
  · exact ⟨_, fun _ _ h => h, by simp only [spoilT, if_neg t1, if_neg t2, if_neg t3]; rfl⟩
theorem spoil_says {g : Geo} {r : Rc} {copy slot : Int} (hg : okG g = true) (hok : okR g r = true) (hl : okL g copy slot = true) (how bits : Int) :
    saysR g (spoilT ⟨0, cellB g r copy slot⟩ how bits).1 copy slot = (if (spoilT ⟨0, cellB g r copy slot⟩ how bits).2 then some r else none) ∧ (spoilT ⟨0, cellB g r copy slot⟩ how bits).1.bytes.length ≤ 100000 := by
  have hb := logAt_bounds hg hl
  have hs := okR_seq hok
  have hn := recB_short hok
  have ho : openE (cellB g r copy slot) = 0 := (seal_open (a := logAt g copy slot) (s := r.seq) (p := recB r) ⟨hb.1, hb.2, hs.1, hs.2, by omega⟩).1
  unfold spoilT
  split
  · exact ⟨says_err (by show (6 : Int) ≠ 0; decide), Nat.zero_le _⟩
  split
  · exact ⟨says_bad (by simp only [openE_flip ho]; decide), by simp only [flipT_length]; exact cellB_short hok copy slot⟩
  split
  · exact ⟨says_bad (by decide), Nat.zero_le _⟩
  · exact ⟨says_cell hg hok hl, cellB_short hok copy slot⟩
theorem anOk_epoch {g : Geo} {a : An} (h : anOk g a = true) : 0 ≤ a.epoch ∧ a.epoch ≤ 4294967295 := by
  simp only [anOk, List.all_cons, Bool.and_eq_true, inB_iff] at h
  exact h.1.2.1
theorem imgOk_short {g : Geo} {x : Img} (h : imgOk g x = true) : x.bytes.length ≤ 100 := by
  obtain ⟨h1, -, h3⟩ := imgOk_parts h
  obtain ⟨-, hd, -⟩ := okG_iff.1 h1
  rcases h3 with ⟨-, l, hl⟩ | ⟨-, -, h8⟩
  · have := readT_len hl
    omega
  · omega
def leftQ (ok is : Bool) (r : Rc) : Rc × List Int × Int := if ok && is then (r, [], 1) else if ok then (r, [1], 1) else if is then (r, [0], 1) else (zeroC, [], 3)
theorem look_left {g : Geo} {a : An} {x y : Gt} {slot seq at_ of_ left : Int} {r : Rc} {ok is : Bool} (h0 : saysR g x 0 slot = if ok then some r else none) (h1 : saysR g y 1 slot = if is then some r else none) (h : isOne r a seq at_ of_ left = true) : lookR g a x y slot seq at_ of_ left = leftQ ok is r := by
  unfold lookR
  rw [h0, h1]
  cases ok <;> cases is <;> simp [oneO, h, lookT, leftQ]
set_option maxRecDepth 100000 in
theorem left_fn (g : Geo) (a : An) (l : List Img) (slot seq at_ one two bits : Int) : Fn Tryd.prog 4 [.ag (geoC g), .ag (anC a), imgsA l, .v (.int .i64 slot), .v (.int .i64 seq), .v (.int .i64 at_), .ag (arrC [one, two, bits])] fun r => r = .v (.bool true) := by
  refine Fn.of tys_ok Tryd.func4 rfl rfl (Nat.le_of_ble_eq_true rfl) ?_
  conv => whnf
  refine aDraw.of tys_ok mixed [0, 1, 2, 3, 4, 5, 6, 7, 8] (by kernel_rfl) ?_
  conv => whnf
  repeat' (refine And.intro (by decide) ?_; conv => whnf)
  refine Fn.closed (heavyA_fn a) rfl ?_
  rintro _ rfl
  conv => whnf
  refine boolI (fun t1 => ?_) (fun t1 => ?_) <;> (repeat rw [Int.toNat_natCast] at t1) <;> conv => whnf
  · exact ⟨_, fun _ _ h => h, rfl⟩
  obtain ⟨hh, hl⟩ := heavyA_no t1
  refine boolI (fun t2 => ?_) (fun t2 => ?_) <;> (repeat rw [Int.toNat_natCast] at t2) <;> conv => whnf
  · exact ⟨_, fun _ _ h => h, rfl⟩
  refine Fn.closed (rgeom_br g) rfl ?_
  rintro _ rfl
  conv => whnf
  refine boolI (fun t3 => ?_) (fun t3 => ?_) <;> (repeat rw [Int.toNat_natCast] at t3) <;> conv => whnf
  · exact ⟨_, fun _ _ h => h, rfl⟩
  refine Fn.closed (ranchor_fn g a t3 (by omega)) rfl ?_
  rintro _ rfl
  conv => whnf
  refine boolI (fun t4 => ?_) (fun t4 => ?_) <;> (repeat rw [Int.toNat_natCast] at t4) <;> conv => whnf
  · exact ⟨_, fun _ _ h => h, rfl⟩
  refine boolI (fun t5 => ?_) (fun t5 => ?_) <;> (repeat rw [Int.toNat_natCast] at t5) <;> conv => whnf
  · exact ⟨_, fun _ _ h => h, rfl⟩
  refine boolI (fun t6 => ?_) (fun t6 => ?_) <;> (repeat rw [Int.toNat_natCast] at t6) <;> conv => whnf
  · exact ⟨_, fun _ _ h => h, rfl⟩
  obtain ⟨h1, h2, h3, h4, h5⟩ := okG_iff.1 t3
  refine aLoop.rule Nat (fun k => ([(2, imgsA l), (3, .v (.int .i64 slot)), (4, .v (.int .i64 seq)), (5, .v (.int .i64 at_)), (7, .bp 0 0), (8, .bp 1 0), (13, .bp 2 0), (15, .v (.int .i64 one)), (16, .v (.int .i64 two)), (17, .v (.int .i64 bits)), (18, .v (.int .i64 k))], [.box 23 (geoC g), .box 26 (anC a), .box 54 (arrC [one, two, bits])])) (fun k => k ≤ l.length ∧ ∀ x ∈ l.take k, imgOk g x = true) (fun k => l.length - k) 0 ⟨Nat.zero_le _, by simp⟩ ⟨[], trivial, ⟨rfl, rfl, rfl, rfl, rfl, rfl, rfl, rfl, rfl, rfl, rfl, trivial⟩, ⟨rfl, rfl, rfl, trivial⟩, rfl, rfl, rfl⟩ ?_
  rintro k ⟨hk, hI⟩
  conv => whnf
  refine boolI (fun hk1 => ?_) (fun hk1 => ?_) <;> (repeat rw [Int.toNat_natCast] at hk1) <;> conv => whnf
  · refine aDraw.of tys_ok mixed [0, 1, 2, 3, 4, 5, 6] (by kernel_rfl) ?_
    conv => whnf
    refine ⟨by omega, ?_⟩
    conv => whnf
    refine Fn.closed (rimage_br g (l.getD k ⟨0, 0, []⟩) t3) rfl ?_
    rintro _ rfl
    conv => whnf
    refine boolI (fun hi => ?_) (fun hi => ?_) <;> (repeat rw [Int.toNat_natCast] at hi) <;> conv => whnf
    · exact ⟨_, fun _ _ h => h, rfl⟩
    · refine ⟨k + 1, ⟨by omega, fun x hx => ?_⟩, by omega, [], trivial, ⟨rfl, rfl, rfl, rfl, rfl, rfl, rfl, rfl, rfl, rfl, wsucc (by omega), trivial⟩, ⟨rfl, rfl, rfl, trivial⟩, rfl, rfl, rfl⟩
      rw [List.take_succ_eq_append_getElem (by omega), List.mem_append] at hx
      rcases hx with hx | hx
      · exact hI x hx
      · rw [List.mem_singleton.1 hx, ← hi, List.getD_eq_getElem?_getD, List.getElem?_eq_getElem (by omega)]
        rfl
  rw [List.take_of_length_le (by omega)] at hI
  have hw : IntKind.u64.wrap g.sl = g.sl := by rw [IntKind.wrap_u64]; omega
  rw [hw]
  refine And.intro (by omega) ?_
  conv => whnf
  repeat' (refine And.intro (by decide) ?_; conv => whnf)
  have b1 := modU_in (x := slot) (n := g.sl) (by omega) (by omega)
  have b2 := modU_in (x := seq) (n := 1000000) (by decide) (by decide)
  have b4 := anOk_epoch t4
  have him := fun x hx => imgOk_short (hI x hx)
  refine Fn.closed (records_fn (modU seq 1000000) a.epoch l (by omega) (fun x hx => by have := him x hx; omega)) rfl ?_
  rintro _ rfl
  conv => whnf
  have hrl := recsOf_length (modU seq 1000000) a.epoch l
  have hrs : ∀ k, k < l.length + 1 → RecAt g (modU seq 1000000) a.epoch l k ((recsOf (modU seq 1000000) a.epoch l).getD k rc0) := fun k hk => recs_at t3 (by omega) b4 hI (by omega) (by omega) hk
  generalize recsOf (modU seq 1000000) a.epoch l = T at *
  have hw2 : IntKind.u64.wrap ((l.length + 1 : Nat) : Int) = ((l.length + 1 : Nat) : Int) := by rw [IntKind.wrap_u64]; omega
  rw [hrl, hw2]
  refine And.intro (by omega) ?_
  conv => whnf
  have b3 := modU_in (x := at_) (n := ((l.length + 1 : Nat) : Int)) (by omega) (by omega)
  have b3' : 0 ≤ IntKind.i64.wrap ((IntKind.u64.wrap at_).tmod ((l.length + 1 : Nat) : Int)) ∧ IntKind.i64.wrap ((IntKind.u64.wrap at_).tmod ((l.length + 1 : Nat) : Int)) < ((l.length + 1 : Nat) : Int) := b3
  have b5 := modU_in (x := bits) (n := 1000000) (by decide) (by decide)
  have hR := hrs (modU at_ ((l.length + 1 : Nat) : Int)).toNat (by omega)
  have hL0 : okL g 0 (modU slot g.sl) = true := by rw [okL, inB_iff.2 (show 0 ≤ modU slot g.sl ∧ modU slot g.sl ≤ g.sl - 1 by omega)]; rfl
  have hL1 : okL g 1 (modU slot g.sl) = true := by rw [okL, inB_iff.2 (show 0 ≤ modU slot g.sl ∧ modU slot g.sl ≤ g.sl - 1 by omega)]; rfl
  have c0 := cell17_fn g _ 0 (modU slot g.sl) hR.ok hL0
  have c1 := cell17_fn g _ 1 (modU slot g.sl) hR.ok hL1
  have p0 := spoil_fn g ⟨0, cellB g (T.getD (modU at_ ((l.length + 1 : Nat) : Int)).toNat rc0) 0 (modU slot g.sl)⟩ one (modU bits 1000000) (Nat.le_trans (cellB_short hR.ok 0 (modU slot g.sl)) (by decide))
  have p1 := spoil_fn g ⟨0, cellB g (T.getD (modU at_ ((l.length + 1 : Nat) : Int)).toNat rc0) 1 (modU slot g.sl)⟩ two (modU bits 1000000) (Nat.le_trans (cellB_short hR.ok 1 (modU slot g.sl)) (by decide))
  apply aDraw.tree tys_ok mixed (.one 0 (.one 1 (.one 2 (.one 3 (.one 4 (.one 5 (.one 6 (.one 8 (.one 9 (.two 7 (.two 10 (.one 11 (.one 12 (.one 13 (.one 14 (.one 15 (.one 16 .fin)))))) 14 (.one 10 (.one 11 (.one 12 (.one 13 (.one 15 (.one 16 .fin))))))) 14 (.one 7 (.one 10 (.one 11 (.one 12 (.one 13 (.one 15 (.one 16 .fin))))))))))))))))) [20, 21, 106, 107, 108, 109, 110, 111, 112, 113, 114, 115, 116, 117, 118, 119] (by kernel_rfl)
  · conv => whnf
    try (refine And.intro (by omega) ?_; conv => whnf)
    refine And.intro ?_ ?_
    · conv => whnf
      refine Fn.closed (c0) rfl ?_
      rintro _ rfl
      conv => whnf
      refine And.intro ?_ ?_
      · conv => whnf
        refine Fn.closed (p0) rfl ?_
        rintro _ rfl
        conv => whnf
        exact ⟨rfl, rfl⟩
      · conv => whnf
        refine Fn.closed (p0) rfl ?_
        rintro _ rfl
        conv => whnf
        exact ⟨rfl, rfl⟩
    · conv => whnf
      refine Fn.closed (c0) rfl ?_
      rintro _ rfl
      conv => whnf
      refine Fn.closed (p0) rfl ?_
      rintro _ rfl
      conv => whnf
      exact ⟨rfl, rfl⟩
  conv => whnf
  apply aDraw.tree tys_ok mixed (.one 0 (.one 1 (.one 2 (.one 3 (.one 4 (.one 5 (.one 6 (.one 8 (.one 9 (.two 7 (.two 10 (.one 11 (.one 12 (.one 13 (.one 14 (.one 15 (.one 16 .fin)))))) 14 (.one 10 (.one 11 (.one 12 (.one 13 (.one 15 (.one 16 .fin))))))) 14 (.one 7 (.one 10 (.one 11 (.one 12 (.one 13 (.one 15 (.one 16 .fin))))))))))))))))) [22, 23, 120, 121, 122, 123, 124, 125, 126, 127, 128, 129, 130, 131, 132, 133] (by kernel_rfl)
  · conv => whnf
    try (refine And.intro (by omega) ?_; conv => whnf)
    refine And.intro ?_ ?_
    · conv => whnf
      refine Fn.closed (c1) rfl ?_
      rintro _ rfl
      conv => whnf
      refine And.intro ?_ ?_
      · conv => whnf
        refine Fn.closed (p1) rfl ?_
        rintro _ rfl
        conv => whnf
        exact ⟨rfl, rfl⟩
      · conv => whnf
        refine Fn.closed (p1) rfl ?_
        rintro _ rfl
        conv => whnf
        exact ⟨rfl, rfl⟩
    · conv => whnf
      refine Fn.closed (c1) rfl ?_
      rintro _ rfl
      conv => whnf
      refine Fn.closed (p1) rfl ?_
      rintro _ rfl
      conv => whnf
      exact ⟨rfl, rfl⟩
  conv => whnf
  have q0 := spoil_says t3 hR.ok hL0 one (modU bits 1000000)
  have q1 := spoil_says t3 hR.ok hL1 two (modU bits 1000000)
  clear c0 c1 p0 p1
  generalize spoilT ⟨0, cellB g (T.getD (modU at_ ((l.length + 1 : Nat) : Int)).toNat rc0) 0 (modU slot g.sl)⟩ one (modU bits 1000000) = P0 at q0 ⊢
  generalize spoilT ⟨0, cellB g (T.getD (modU at_ ((l.length + 1 : Nat) : Int)).toNat rc0) 1 (modU slot g.sl)⟩ two (modU bits 1000000) = P1 at q1 ⊢
  obtain ⟨X, ok⟩ := P0
  obtain ⟨Y, is⟩ := P1
  simp only at q0 q1
  obtain ⟨q0, n0⟩ := q0
  obtain ⟨q1, n1⟩ := q1
  have hs : inB (modU slot g.sl) 0 (g.sl - 1) = true := inB_iff.2 (by omega)
  have hB : ∀ of_, (of_ = 0 ∨ of_ = ((l.length + 1 : Nat) : Int)) → isOne (T.getD (modU at_ ((l.length + 1 : Nat) : Int)).toNat rc0) a (modU seq 1000000) (modU at_ ((l.length + 1 : Nat) : Int)) of_ g.sl = true := fun of_ ho => by
    have e1 := hR.at_
    have e2 := hR.of_
    exact decide_eq_true ⟨hR.kind, hR.seq, by omega, fun _ => by omega, fun _ => by omega, .inl hR.epoch⟩
  have lk : ∀ of_, (of_ = 0 ∨ of_ = ((l.length + 1 : Nat) : Int)) → _ := fun of_ ho => look_is (g := g) (a := a) (x := X) (y := Y) (slot := modU slot g.sl) (seq := modU seq 1000000) (at_ := modU at_ ((l.length + 1 : Nat) : Int)) (of_ := of_) (left := g.sl) (by omega) (by omega) n0 n1 t3 t4 hs (look_left q0 q1 (hB of_ ho))
  have w1 := rec_same (T.getD (modU at_ ((l.length + 1 : Nat) : Int)).toNat rc0) (Nat.le_trans (saysR_len (says_cell t3 hR.ok hL0)) (Nat.le_trans (cellB_short hR.ok 0 (modU slot g.sl)) (by decide)))
  refine aSeq.go ?_
  conv => whnf
  refine boolI (fun ha => ?_) (fun ha => ?_) <;> (repeat rw [Int.toNat_natCast] at ha) <;> conv => whnf
  · have lk0 := lk 0 (.inl rfl)
    clear lk q0 q1
    cases ok <;> cases is
    · refine Fn.closed (lk0) rfl ?_
      rintro _ rfl
      conv => whnf
      repeat' (first | (refine aSeq.go ?_; conv => whnf) | (refine boolI (fun _ => ?_) (fun _ => ?_) <;> conv => whnf) | (refine Fn.closed (wakes17_fn) rfl ?_; rintro _ rfl; conv => whnf) | (refine And.intro (by first | omega | exact of_decide_eq_true rfl) ?_; conv => whnf) | fail)
      exact ⟨_, fun _ _ h => h, rfl⟩
    · refine Fn.closed (lk0) rfl ?_
      rintro _ rfl
      conv => whnf
      repeat' (first | (refine aSeq.go ?_; conv => whnf) | (refine boolI (fun _ => ?_) (fun _ => ?_) <;> conv => whnf) | (refine Fn.closed (wakes17_fn) rfl ?_; rintro _ rfl; conv => whnf) | (refine Fn.closed (w1) rfl ?_; rintro _ rfl; conv => whnf) | (refine And.intro (by first | omega | exact of_decide_eq_true rfl) ?_; conv => whnf) | fail)
      refine aDraw.of tys_ok mixed [0, 1, 2, 3, 4, 5, 6, 7, 8, 9, 10, 11, 12, 13, 14, 15, 16, 17, 18] (by kernel_rfl) ?_
      conv => whnf
      refine ⟨by omega, ?_⟩
      conv => whnf
      refine Fn.closed (w1) rfl ?_
      rintro _ rfl
      conv => whnf
      have z := ints_same [0] (by decide)
      refine ACalls.shut (z).go ?_
      conv => whnf
      repeat' (refine And.intro (by first | rfl | omega | (simp; done) | (simp only [List.length_map]; omega)) ?_; conv => whnf)
      refine ACalls.sub _ ?_ (Fn.closed (z) rfl ?_)
      · repeat' (first | exact trivial | exact fun _ _ h => h | exact nil_sl _ _ | exact one_sub | refine And.intro ?_ ?_ | refine ag_sub ?_)
      rintro _ rfl
      conv => whnf
      refine Fn.closed (wakes17_fn) rfl ?_
      rintro _ rfl
      conv => whnf
      exact ⟨_, fun _ _ h => h, rfl⟩
    · refine Fn.closed (lk0) rfl ?_
      rintro _ rfl
      conv => whnf
      repeat' (first | (refine aSeq.go ?_; conv => whnf) | (refine boolI (fun _ => ?_) (fun _ => ?_) <;> conv => whnf) | (refine Fn.closed (wakes17_fn) rfl ?_; rintro _ rfl; conv => whnf) | (refine Fn.closed (w1) rfl ?_; rintro _ rfl; conv => whnf) | (refine And.intro (by first | omega | exact of_decide_eq_true rfl) ?_; conv => whnf) | fail)
      refine aDraw.of tys_ok mixed [0, 1, 2, 3, 4, 5, 6, 7, 8, 9, 10, 11, 12, 13, 14, 15, 16, 17, 18] (by kernel_rfl) ?_
      conv => whnf
      refine ⟨by omega, ?_⟩
      conv => whnf
      refine Fn.closed (w1) rfl ?_
      rintro _ rfl
      conv => whnf
      have z := ints_same [1] (by decide)
      refine ACalls.shut (z).go ?_
      conv => whnf
      repeat' (refine And.intro (by first | rfl | omega | (simp; done) | (simp only [List.length_map]; omega)) ?_; conv => whnf)
      refine ACalls.sub _ ?_ (Fn.closed (z) rfl ?_)
      · repeat' (first | exact trivial | exact fun _ _ h => h | exact nil_sl _ _ | exact one_sub | refine And.intro ?_ ?_ | refine ag_sub ?_)
      rintro _ rfl
      conv => whnf
      refine Fn.closed (wakes17_fn) rfl ?_
      rintro _ rfl
      conv => whnf
      exact ⟨_, fun _ _ h => h, rfl⟩
    · refine Fn.closed (lk0) rfl ?_
      rintro _ rfl
      conv => whnf
      repeat' (first | (refine aSeq.go ?_; conv => whnf) | (refine boolI (fun _ => ?_) (fun _ => ?_) <;> conv => whnf) | (refine Fn.closed (wakes17_fn) rfl ?_; rintro _ rfl; conv => whnf) | (refine Fn.closed (w1) rfl ?_; rintro _ rfl; conv => whnf) | (refine And.intro (by first | omega | exact of_decide_eq_true rfl) ?_; conv => whnf) | fail)
      refine aDraw.of tys_ok mixed [0, 1, 2, 3, 4, 5, 6, 7, 8, 9, 10, 11, 12, 13, 14, 15, 16, 17, 18] (by kernel_rfl) ?_
      conv => whnf
      refine ⟨by omega, ?_⟩
      conv => whnf
      refine Fn.closed (w1) rfl ?_
      rintro _ rfl
      conv => whnf
      have z := ints_same [] (by decide)
      refine ACalls.sub _ ?_ (Fn.closed (z) rfl ?_)
      · repeat' (first | exact trivial | exact fun _ _ h => h | exact nil_sl _ _ | refine And.intro ?_ ?_ | refine ag_sub ?_)
      rintro _ rfl
      conv => whnf
      refine Fn.closed (wakes17_fn) rfl ?_
      rintro _ rfl
      conv => whnf
      exact ⟨_, fun _ _ h => h, rfl⟩
  · have lk0 := lk ((l.length + 1 : Nat) : Int) (.inr rfl)
    clear lk q0 q1
    cases ok <;> cases is
    · refine Fn.closed (lk0) rfl ?_
      rintro _ rfl
      conv => whnf
      repeat' (first | (refine aSeq.go ?_; conv => whnf) | (refine boolI (fun _ => ?_) (fun _ => ?_) <;> conv => whnf) | (refine Fn.closed (wakes17_fn) rfl ?_; rintro _ rfl; conv => whnf) | (refine And.intro (by first | omega | exact of_decide_eq_true rfl) ?_; conv => whnf) | fail)
      exact ⟨_, fun _ _ h => h, rfl⟩
    · refine Fn.closed (lk0) rfl ?_
      rintro _ rfl
      conv => whnf
      repeat' (first | (refine aSeq.go ?_; conv => whnf) | (refine boolI (fun _ => ?_) (fun _ => ?_) <;> conv => whnf) | (refine Fn.closed (wakes17_fn) rfl ?_; rintro _ rfl; conv => whnf) | (refine Fn.closed (w1) rfl ?_; rintro _ rfl; conv => whnf) | (refine And.intro (by first | omega | exact of_decide_eq_true rfl) ?_; conv => whnf) | fail)
      refine aDraw.of tys_ok mixed [0, 1, 2, 3, 4, 5, 6, 7, 8, 9, 10, 11, 12, 13, 14, 15, 16, 17, 18] (by kernel_rfl) ?_
      conv => whnf
      refine ⟨by omega, ?_⟩
      conv => whnf
      refine Fn.closed (w1) rfl ?_
      rintro _ rfl
      conv => whnf
      have z := ints_same [0] (by decide)
      refine ACalls.shut (z).go ?_
      conv => whnf
      repeat' (refine And.intro (by first | rfl | omega | (simp; done) | (simp only [List.length_map]; omega)) ?_; conv => whnf)
      refine ACalls.sub _ ?_ (Fn.closed (z) rfl ?_)
      · repeat' (first | exact trivial | exact fun _ _ h => h | exact nil_sl _ _ | exact one_sub | refine And.intro ?_ ?_ | refine ag_sub ?_)
      rintro _ rfl
      conv => whnf
      refine Fn.closed (wakes17_fn) rfl ?_
      rintro _ rfl
      conv => whnf
      exact ⟨_, fun _ _ h => h, rfl⟩
    · refine Fn.closed (lk0) rfl ?_
      rintro _ rfl
      conv => whnf
      repeat' (first | (refine aSeq.go ?_; conv => whnf) | (refine boolI (fun _ => ?_) (fun _ => ?_) <;> conv => whnf) | (refine Fn.closed (wakes17_fn) rfl ?_; rintro _ rfl; conv => whnf) | (refine Fn.closed (w1) rfl ?_; rintro _ rfl; conv => whnf) | (refine And.intro (by first | omega | exact of_decide_eq_true rfl) ?_; conv => whnf) | fail)
      refine aDraw.of tys_ok mixed [0, 1, 2, 3, 4, 5, 6, 7, 8, 9, 10, 11, 12, 13, 14, 15, 16, 17, 18] (by kernel_rfl) ?_
      conv => whnf
      refine ⟨by omega, ?_⟩
      conv => whnf
      refine Fn.closed (w1) rfl ?_
      rintro _ rfl
      conv => whnf
      have z := ints_same [1] (by decide)
      refine ACalls.shut (z).go ?_
      conv => whnf
      repeat' (refine And.intro (by first | rfl | omega | (simp; done) | (simp only [List.length_map]; omega)) ?_; conv => whnf)
      refine ACalls.sub _ ?_ (Fn.closed (z) rfl ?_)
      · repeat' (first | exact trivial | exact fun _ _ h => h | exact nil_sl _ _ | exact one_sub | refine And.intro ?_ ?_ | refine ag_sub ?_)
      rintro _ rfl
      conv => whnf
      refine Fn.closed (wakes17_fn) rfl ?_
      rintro _ rfl
      conv => whnf
      exact ⟨_, fun _ _ h => h, rfl⟩
    · refine Fn.closed (lk0) rfl ?_
      rintro _ rfl
      conv => whnf
      repeat' (first | (refine aSeq.go ?_; conv => whnf) | (refine boolI (fun _ => ?_) (fun _ => ?_) <;> conv => whnf) | (refine Fn.closed (wakes17_fn) rfl ?_; rintro _ rfl; conv => whnf) | (refine Fn.closed (w1) rfl ?_; rintro _ rfl; conv => whnf) | (refine And.intro (by first | omega | exact of_decide_eq_true rfl) ?_; conv => whnf) | fail)
      refine aDraw.of tys_ok mixed [0, 1, 2, 3, 4, 5, 6, 7, 8, 9, 10, 11, 12, 13, 14, 15, 16, 17, 18] (by kernel_rfl) ?_
      conv => whnf
      refine ⟨by omega, ?_⟩
      conv => whnf
      refine Fn.closed (w1) rfl ?_
      rintro _ rfl
      conv => whnf
      have z := ints_same [] (by decide)
      refine ACalls.sub _ ?_ (Fn.closed (z) rfl ?_)
      · repeat' (first | exact trivial | exact fun _ _ h => h | exact nil_sl _ _ | refine And.intro ?_ ?_ | refine ag_sub ?_)
      rintro _ rfl
      conv => whnf
      refine Fn.closed (wakes17_fn) rfl ?_
      rintro _ rfl
      conv => whnf
      exact ⟨_, fun _ _ h => h, rfl⟩
end Go.Proofs.YteecmgonbdbhdaaDoor.A
end

/-
A right log's records are right ones.
-/
section
namespace Go.Proofs.YteecmgonbdbhdaaDoor.A
open Go.RowKit

theorem ents0 : ∀ n, n < 6 → entsOf n (tblB (List.replicate n ent0)) = List.replicate n ent0 := by decide +kernel
theorem readT_tab0 {g : Geo} (hg : okG g = true) : readT g (tblB (tab0 g)) = some (tab0 g) := by
  obtain ⟨h1, h2, h3, h4, h5⟩ := okG_iff.1 hg
  have e := ents0 (g.d + 1).toNat (by omega)
  unfold readT tab0
  rw [e, if_pos]
  refine ⟨?_, rfl⟩
  unfold okT
  simp only [Bool.and_eq_true, decide_eq_true_eq, List.length_replicate, Bool.not_eq_true']
  refine ⟨⟨⟨hg, by omega⟩, ?_⟩, ?_⟩
  · rw [List.all_eq_true]
    intro x hx
    rw [List.eq_of_mem_replicate hx]
    decide +kernel
  · unfold lostAt
    rw [List.getElem?_replicate_of_lt (by omega)]
    rfl
theorem tab0_len (g : Geo) : (tblB (tab0 g)).length = 9 * (g.d + 1).toNat := by rw [tblB_len, tab0, List.length_replicate]
theorem logImg_ok {g : Geo} (hg : okG g = true) (fill : UInt8) (i k : Nat) : imgOk g (logImg g fill i k) = true := by
  obtain ⟨h1, h2, h3, h4, h5⟩ := okG_iff.1 hg
  have z1 := Int.tmod_nonneg g.z (show 0 ≤ ((i + k : Nat) : Int) by omega)
  have z2 := Int.tmod_lt_of_pos ((i + k : Nat) : Int) (show 0 < g.z by omega)
  have d1 := Int.tmod_nonneg (g.d + 1) (show 0 ≤ ((i + 2 * k : Nat) : Int) by omega)
  have d2 := Int.tmod_lt_of_pos ((i + 2 * k : Nat) : Int) (show 0 < g.d + 1 by omega)
  unfold imgOk logImg
  split
  · simp only [hg, inB_iff.2 (show 0 ≤ ((i + k : Nat) : Int).tmod g.z ∧ ((i + k : Nat) : Int).tmod g.z ≤ g.z - 1 by omega), readT_tab0 hg]
    rfl
  · simp only [hg, inB_iff.2 (show 0 ≤ ((i + k : Nat) : Int).tmod g.z ∧ ((i + k : Nat) : Int).tmod g.z ≤ g.z - 1 by omega), Bool.true_and]
    rw [if_neg (by omega), inB_iff.2 (show -1 ≤ ((i + 2 * k : Nat) : Int).tmod (g.d + 1) - 1 ∧ ((i + 2 * k : Nat) : Int).tmod (g.d + 1) - 1 ≤ g.d - 1 by omega)]
    rfl
/-- What is in a log: right transactions, numbered. -/
structure TxIn (g : Geo) (a : An) (fill : UInt8) (i0 : Nat) (l : List Tx) : Prop where
  at_ : ∀ j, j < l.length → ∃ pos n, l.getD j tz = logTx g a fill (i0 + j) pos n ∧ 1 ≤ n ∧ n ≤ 5 ∧ 0 ≤ pos ∧ pos < g.sl
theorem logM_in {g : Geo} {a : An} {fill : UInt8} (hg : okG g = true) : ∀ (sizes : List Int) (i : Nat) (pos used : Int), 0 ≤ pos ∧ pos < g.sl → TxIn g a fill i (logM g a fill sizes i pos used)
  | [], _, _, _, _ => ⟨fun j hj => by simp [logM] at hj⟩
  | s :: r, i, pos, used, hp => by
    obtain ⟨h1, h2, h3, h4, h5⟩ := okG_iff.1 hg
    have hn := nImg_in s
    have hm := Int.tmod_lt_of_pos (pos + (nImg s : Nat) + 1) (show 0 < g.sl by omega)
    have hm0 := Int.tmod_nonneg g.sl (show 0 ≤ pos + (nImg s : Nat) + 1 by omega)
    unfold logM
    split
    · exact ⟨fun j hj => by simp at hj⟩
    · refine ⟨fun j hj => ?_⟩
      cases j with
      | zero => exact ⟨pos, nImg s, rfl, hn.1, hn.2, hp⟩
      | succ j =>
        obtain ⟨p, n, e, q⟩ := (logM_in hg r (i + 1) _ (used + (nImg s : Nat) + 1) ⟨hm0, hm⟩).at_ j (by simpa using hj)
        refine ⟨p, n, ?_, q⟩
        rw [show i + (j + 1) = i + 1 + j by omega, ← e]
        rfl
theorem logM_len {g : Geo} {a : An} {fill : UInt8} : ∀ (sizes : List Int) (i : Nat) (pos used : Int), used ≤ g.sl → 2 * ((logM g a fill sizes i pos used).length : Int) ≤ g.sl - used
  | [], _, _, _, h => by simp [logM]; omega
  | s :: r, i, pos, used, h => by
    have hn := nImg_in s
    unfold logM
    split
    · simp; omega
    · have := logM_len (g := g) (a := a) (fill := fill) r (i + 1) ((pos + (nImg s : Nat) + 1).tmod g.sl) (used + (nImg s : Nat) + 1) (by omega)
      simp only [List.length_cons]
      omega
theorem whoM_some {g : Geo} {s : Int} : ∀ {l : List Tx} {i j : Nat} {k : Int}, whoM g s l i = some (j, k) → i ≤ j ∧ j < i + l.length ∧ whoOk g (l.getD (j - i) tz) s = true ∧ k = whoK g (l.getD (j - i) tz) s
  | [], i, j, k, h => by cases h
  | t :: r, i, j, k, h => by
    unfold whoM at h
    split at h
    · injection h with h
      injection h with e1 e2
      subst e1
      subst e2
      refine ⟨Nat.le_refl _, by simp, ?_, ?_⟩ <;> rw [Nat.sub_self] <;> first | assumption | rfl
    · obtain ⟨q1, q2, q3, q4⟩ := whoM_some h
      refine ⟨by omega, by simp only [List.length_cons]; omega, ?_, ?_⟩
      · rw [show j - i = (j - (i + 1)) + 1 by omega]; exact q3
      · rw [show j - i = (j - (i + 1)) + 1 by omega]; exact q4
theorem logTx_imgs {g : Geo} {a : An} {fill : UInt8} {i n : Nat} {pos : Int} (hg : okG g = true) : (logTx g a fill i pos n).images.length = n ∧ ∀ x ∈ (logTx g a fill i pos n).images, imgOk g x = true := by
  refine ⟨by simp [logTx], fun x hx => ?_⟩
  obtain ⟨k, -, rfl⟩ := List.mem_map.1 hx
  exact logImg_ok hg fill i k
theorem okR_zero {g : Geo} (hg : okG g = true) : okR g zeroC = true := by
  simp [okR, hg, behOk, zeroC, noneB]
/-- A right log, written with any right epoch. -/
theorem logM_ok {g : Geo} {a : An} {fill : UInt8} {sizes : List Int} {epoch : Int} (hg : okG g = true) (ha : anOk g a = true) (hs : a.seq ≤ 1000000) (he : 0 ≤ epoch ∧ epoch ≤ 4294967295) : LogOk g (logM g a fill sizes 0 a.pos 0) epoch := by
  obtain ⟨h1, h2, h3, h4, h5⟩ := okG_iff.1 hg
  have hq := anOk_seq ha
  have hin := logM_in (a := a) (fill := fill) hg sizes 0 a.pos 0 hq.2
  have hlen := logM_len (g := g) (a := a) (fill := fill) sizes 0 a.pos 0 (by omega)
  generalize logM g a fill sizes 0 a.pos 0 = l at hin hlen
  have hwho : ∀ s i k, 0 ≤ s ∧ s < g.sl → whoM g s l 0 = some (i, k) → i < l.length ∧ 0 ≤ k ∧ ∃ pos n, l.getD i tz = logTx g a fill i pos n ∧ 1 ≤ n ∧ n ≤ 5 ∧ k.toNat < n + 1 := fun s i k hsl hw => by
    obtain ⟨q1, q2, q3, q4⟩ := whoM_some hw
    rw [Nat.sub_zero] at q3 q4
    obtain ⟨pos, n, e, n1, n2, p1, p2⟩ := hin.at_ i (by omega)
    rw [Nat.zero_add] at e
    unfold whoOk at q3
    simp only [Bool.and_eq_true, decide_eq_true_eq] at q3
    rw [← q4, e] at q3
    have k0 : 0 ≤ k := by
      rw [q4, e, whoK]
      refine Int.tmod_nonneg _ ?_
      rw [IntKind.wrap_i64, IntKind.wrap_i64]
      simp only [logTx]
      omega
    refine ⟨by omega, k0, pos, n, e, n1, n2, ?_⟩
    have := q3.2
    simp only [logTx] at this
    omega
  refine ⟨by omega, fun t ht => ?_, fun s i k hsl hw => ?_, fun s hsl => ?_⟩
  · obtain ⟨j, hj, rfl⟩ := List.mem_iff_getElem.1 ht
    obtain ⟨pos, n, e, n1, n2, -⟩ := hin.at_ j hj
    rw [List.getD_eq_getElem?_getD, List.getElem?_eq_getElem hj] at e
    simp only [Option.getD_some] at e
    rw [e]
    obtain ⟨i1, i2⟩ := logTx_imgs (a := a) (fill := fill) (i := 0 + j) (n := n) (pos := pos) hg
    exact ⟨by omega, fun x hx => by have := imgOk_short (i2 x hx); omega⟩
  · obtain ⟨q1, q2, pos, n, e, n1, n2, q3⟩ := hwho s i k hsl hw
    rw [e, (logTx_imgs (a := a) (fill := fill) (i := i) (n := n) (pos := pos) hg).1]
    exact ⟨q1, q2, q3⟩
  · unfold recW
    cases hw : whoM g s l 0 with
    | none => exact okR_zero hg
    | some q =>
      obtain ⟨i, k⟩ := q
      obtain ⟨q1, q2, pos, n, e, n1, n2, q3⟩ := hwho s i k hsl hw
      simp only
      rw [e]
      obtain ⟨i1, i2⟩ := logTx_imgs (a := a) (fill := fill) (i := i) (n := n) (pos := pos) hg
      exact (recs_at (seq := (logTx g a fill i pos n).seq) (epoch := epoch) (l := (logTx g a fill i pos n).images) (k := k.toNat) hg (by simp only [logTx]; omega) he i2 (by omega) (by omega) (by omega)).ok
end Go.Proofs.YteecmgonbdbhdaaDoor.A
end

/-
Whose a slot of a right log is: by how far it lies behind the log's place.
-/
section
namespace Go.Proofs.YteecmgonbdbhdaaDoor.A
open Go.RowKit

theorem tmod_lo {x n : Int} (h0 : 0 ≤ x) (h1 : x < n) : x.tmod n = x := Int.tmod_eq_of_lt h0 h1
theorem tmod_hi {x n : Int} (h0 : n ≤ x) (h1 : x < 2 * n) (hn : 0 < n) : x.tmod n = x - n := by
  rw [Int.tmod_eq_emod_of_nonneg (by omega), ← Int.sub_emod_right x n]
  exact Int.emod_eq_of_lt (by omega) (by omega)
/-- Which transaction's so far behind, and which of its records. -/
def findU : List Tx → Int → Nat → Int → Option (Nat × Int)
  | [], _, _, _ => none
  | t :: r, used, i, u => if used ≤ u ∧ u < used + t.n then some (i, u - used) else findU r (used + t.n) (i + 1) u
theorem whoK_far {g : Geo} {t : Tx} {p0 u used : Int} (hg : okG g = true) (hp : 0 ≤ p0 ∧ p0 < g.sl) (hu : 0 ≤ u ∧ u < g.sl) (hd : 0 ≤ used ∧ used < g.sl) (ht : t.pos = (p0 + used).tmod g.sl) :
    whoK g t ((p0 + u).tmod g.sl) = if used ≤ u then u - used else u - used + g.sl := by
  obtain ⟨h1, h2, h3, h4, h5⟩ := okG_iff.1 hg
  have hs : (p0 + u).tmod g.sl = if p0 + u < g.sl then p0 + u else p0 + u - g.sl := by
    split
    · exact tmod_lo (by omega) (by omega)
    · exact tmod_hi (by omega) (by omega) (by omega)
  have hq : (p0 + used).tmod g.sl = if p0 + used < g.sl then p0 + used else p0 + used - g.sl := by
    split
    · exact tmod_lo (by omega) (by omega)
    · exact tmod_hi (by omega) (by omega) (by omega)
  unfold whoK
  rw [ht, hs, hq]
  have hw : IntKind.i64.wrap (IntKind.i64.wrap ((if p0 + u < g.sl then p0 + u else p0 + u - g.sl) - (if p0 + used < g.sl then p0 + used else p0 + used - g.sl)) + g.sl) = (if p0 + u < g.sl then p0 + u else p0 + u - g.sl) - (if p0 + used < g.sl then p0 + used else p0 + used - g.sl) + g.sl := by
    rw [IntKind.wrap_i64, IntKind.wrap_i64]
    split <;> split <;> omega
  rw [hw]
  split <;> split <;> split
  all_goals first
    | (rw [tmod_lo (by omega) (by omega)]; omega)
    | (rw [tmod_hi (by omega) (by omega) (by omega)]; omega)
    | (exfalso; omega)
theorem who_log {g : Geo} {a : An} {fill : UInt8} (hg : okG g = true) {p0 : Int} (hp : 0 ≤ p0 ∧ p0 < g.sl) {u : Int} (hu : 0 ≤ u ∧ u < g.sl) : ∀ (sizes : List Int) (i j : Nat) (used : Int), 0 ≤ used ∧ used ≤ g.sl → whoM g ((p0 + u).tmod g.sl) (logM g a fill sizes i ((p0 + used).tmod g.sl) used) j = findU (logM g a fill sizes i ((p0 + used).tmod g.sl) used) used j u
  | [], i, j, used, hd => rfl
  | s :: r, i, j, used, hd => by
    obtain ⟨h1, h2, h3, h4, h5⟩ := okG_iff.1 hg
    have hn := nImg_in s
    have ep : ((p0 + used).tmod g.sl + (nImg s : Nat) + 1).tmod g.sl = (p0 + (used + (nImg s : Nat) + 1)).tmod g.sl := by
      rw [Int.tmod_eq_emod_of_nonneg (show 0 ≤ p0 + used by omega)]
      have q := Int.emod_nonneg (p0 + used) (show g.sl ≠ 0 by omega)
      rw [Int.tmod_eq_emod_of_nonneg (by omega), Int.tmod_eq_emod_of_nonneg (by omega), Int.add_assoc, Int.emod_add_emod, show p0 + used + ((nImg s : Nat) + 1) = p0 + (used + (nImg s : Nat) + 1) by omega]
    unfold logM
    split
    · rfl
    · rename_i hc
      have hk := whoK_far (t := logTx g a fill i ((p0 + used).tmod g.sl) (nImg s)) hg hp hu (used := used) (by omega) rfl
      have ip : inB ((p0 + used).tmod g.sl) 0 (g.sl - 1) = true := by
        have q1 := Int.tmod_nonneg g.sl (show 0 ≤ p0 + used by omega)
        have q2 := Int.tmod_lt_of_pos (p0 + used) (show 0 < g.sl by omega)
        exact inB_iff.2 (by omega)
      have inn : inB ((nImg s : Nat) + 1) 0 g.sl = true := inB_iff.2 (by omega)
      have ih := who_log (a := a) (fill := fill) hg hp hu r (i + 1) (j + 1) (used + (nImg s : Nat) + 1) (by omega)
      rw [← ep] at ih
      unfold whoM findU
      have ok : whoOk g (logTx g a fill i ((p0 + used).tmod g.sl) (nImg s)) ((p0 + u).tmod g.sl) = decide (used ≤ u ∧ u < used + ((nImg s : Nat) + 1)) := by
        unfold whoOk
        rw [hk]
        simp only [logTx, ip, inn, Bool.true_and]
        by_cases h : used ≤ u
        · rw [if_pos h]
          exact decide_eq_decide.2 (by omega)
        · rw [if_neg h]
          exact decide_eq_decide.2 (by omega)
      rw [ok, hk]
      by_cases h : used ≤ u ∧ u < used + ((nImg s : Nat) + 1)
      · rw [if_pos (decide_eq_true h), if_pos h.1]
        rw [if_pos (show used ≤ u ∧ u < used + (logTx g a fill i ((p0 + used).tmod g.sl) (nImg s)).n from h)]
      · rw [if_neg (by rw [decide_eq_true_eq]; exact h)]
        rw [if_neg (show ¬ (used ≤ u ∧ u < used + (logTx g a fill i ((p0 + used).tmod g.sl) (nImg s)).n) from h)]
        rw [ih]
        simp only [logTx, Int.add_assoc]
end Go.Proofs.YteecmgonbdbhdaaDoor.A
end

/-
A transaction that the copies say is found.
-/
section
namespace Go.Proofs.YteecmgonbdbhdaaDoor.A
open Go.RowKit

def wsG (look : Int → Rc × Int × List Wr) : Nat → Int → List Wr → List Wr
  | 0, _, w => w
  | f + 1, k, w => wsG look f (k + 1) (w ++ (look k).2.2)
theorem gather_found {look : Int → Rc × Int × List Wr} {R : Nat → Rc} {imgs : List Img} (h1 : ∀ j, j < imgs.length → (R j).kind = 1 ∧ (R j).img = imgs.getD j ⟨0, 0, []⟩) (h2 : (R imgs.length).kind ≠ 1) (hl : ∀ j : Nat, 1 ≤ j → j ≤ imgs.length → (look (j : Nat)).1 = R j ∧ (look (j : Nat)).2.1 = 1) :
    ∀ (f j : Nat) (w : List Wr), f + j = imgs.length → gatherM look f ((j : Nat) + 1) (R j) (imgs.take j) w = (1, imgs, wsG look f ((j : Nat) + 1) w)
  | 0, j, w, h => by
    have e : j = imgs.length := by omega
    subst e
    simp only [gatherM, if_neg h2, List.take_length, wsG]
  | f + 1, j, w, h => by
    obtain ⟨k1, k2⟩ := h1 j (by omega)
    obtain ⟨q1, q2⟩ := hl (j + 1) (by omega) (by omega)
    have ej : (((j + 1 : Nat)) : Int) = (j : Int) + 1 := by omega
    rw [ej] at q1 q2
    have ih := gather_found h1 h2 hl f (j + 1) (w ++ (look ((j : Int) + 1)).2.2) (by omega)
    rw [ej] at ih
    unfold gatherM wsG
    simp only [if_pos k1, q2]
    rw [if_neg (by decide), q1, k2, show imgs.take j ++ [imgs.getD j ⟨0, 0, []⟩] = imgs.take (j + 1) by rw [List.take_succ_eq_append_getElem (by omega), List.getD_eq_getElem?_getD, List.getElem?_eq_getElem (by omega)]; rfl]
    exact ih
/-- At least one copy says the record, and none says another. -/
theorem lookP_found {a : An} {p q : Int → Option Rc} {slot seq at_ of_ left : Int} {r : Rc} (hp : p slot = some r ∨ p slot = none) (hq : q slot = some r ∨ q slot = none) (h : ¬ (p slot = none ∧ q slot = none)) (h1 : isOne r a seq at_ of_ left = true) : (lookP a p q slot seq at_ of_ left).1 = r ∧ (lookP a p q slot seq at_ of_ left).2.2 = 1 := by
  unfold lookP
  rcases hp with hp | hp <;> rcases hq with hq | hq
  · rw [hp, hq]; simp [oneO, h1, lookT]
  · rw [hp, hq]; simp [oneO, h1, lookT]
  · rw [hp, hq]; simp [oneO, h1, lookT]
  · exact absurd ⟨hp, hq⟩ h
/-- A transaction whose every record some copy says is found. -/
theorem txnP_found {g : Geo} {a : An} {p q : Int → Option Rc} {pos seq left ep : Int} {imgs : List Img} (hn : 1 ≤ imgs.length) (hleft : (imgs.length : Int) + 1 ≤ left) (he : ep = a.epoch ∨ seq ≤ a.last ∧ ep ≤ a.epoch)
    (hs : ∀ k : Nat, k < imgs.length + 1 → (p (slotM g pos k) = some ((recsOf seq ep imgs).getD k rc0) ∨ p (slotM g pos k) = none) ∧ (q (slotM g pos k) = some ((recsOf seq ep imgs).getD k rc0) ∨ q (slotM g pos k) = none) ∧ ¬ (p (slotM g pos k) = none ∧ q (slotM g pos k) = none)) :
    (txnP g a p q pos seq left).1 = 1 ∧ (txnP g a p q pos seq left).2.1 = imgs.length + 1 ∧ (txnP g a p q pos seq left).2.2.1 = imgs := by
  have hr : ∀ k : Nat, k < imgs.length + 1 → ((recsOf seq ep imgs).getD k rc0).kind ≠ 0 ∧ ((recsOf seq ep imgs).getD k rc0).seq = seq ∧ ((recsOf seq ep imgs).getD k rc0).epoch = ep ∧ ((recsOf seq ep imgs).getD k rc0).at_ = (k : Nat) ∧ ((recsOf seq ep imgs).getD k rc0).of_ = imgs.length + 1 ∧ (((recsOf seq ep imgs).getD k rc0).kind = 1 ↔ k < imgs.length) ∧ (k < imgs.length → ((recsOf seq ep imgs).getD k rc0).img = imgs.getD k ⟨0, 0, []⟩) := fun k hk => by
    rw [recs_getD seq ep imgs hk]
    split
    · exact ⟨by simp, rfl, rfl, rfl, rfl, by simp [*], fun _ => rfl⟩
    · exact ⟨by simp, rfl, rfl, rfl, rfl, by simp [*], fun h => by omega⟩
  have hrec : ∀ (k : Nat) (of_ : Int), k < imgs.length + 1 → (of_ = 0 ∨ of_ = imgs.length + 1) → (recP g a p q pos seq left k of_).1 = (recsOf seq ep imgs).getD k rc0 ∧ (recP g a p q pos seq left k of_).2.1 = 1 := fun k of_ hk ho => by
    obtain ⟨s1, s2, s3⟩ := hs k hk
    obtain ⟨r1, r2, r3, r4, r5, -⟩ := hr k hk
    exact lookP_found s1 s2 s3 (decide_eq_true ⟨r1, r2, r4, fun _ => by omega, fun _ => by omega, by rw [r3]; exact he⟩)
  obtain ⟨a1, a2⟩ := hrec 0 0 (by omega) (.inl rfl)
  have a3 := (hr 0 (by omega)).2.2.2.2.1
  have gf := gather_found (look := fun k => recP g a p q pos seq left k (imgs.length + 1)) (R := fun k => (recsOf seq ep imgs).getD k rc0) (imgs := imgs) (fun j hj => ⟨(hr j (by omega)).2.2.2.2.2.1.2 hj, (hr j (by omega)).2.2.2.2.2.2 hj⟩) (fun e => by have := (hr imgs.length (by omega)).2.2.2.2.2.1.1 e; omega) (fun j h1 h2 => hrec j _ (by omega) (.inr rfl)) imgs.length 0 (recP g a p q pos seq left 0 0).2.2 (by omega)
  unfold txnP
  simp only
  have a1' : (recP g a p q pos seq left 0 0).1 = (recsOf seq ep imgs).getD 0 rc0 := a1
  have a2' : (recP g a p q pos seq left 0 0).2.1 = 1 := a2
  rw [a1', a2', if_neg (by decide), a3]
  have ef : ((imgs.length : Int) + 1 - 1).toNat = imgs.length := by omega
  rw [ef]
  have gf' : gatherM (fun k => recP g a p q pos seq left k (imgs.length + 1)) imgs.length 1 ((recsOf seq ep imgs).getD 0 rc0) [] (recP g a p q pos seq left 0 0).2.2 = (1, imgs, wsG (fun k => recP g a p q pos seq left k (imgs.length + 1)) imgs.length 1 (recP g a p q pos seq left 0 0).2.2) := gf
  rw [gf']
  rw [if_neg (show ¬ (1 : Int) ≠ 1 by decide)]
  exact ⟨rfl, rfl, rfl⟩
end Go.Proofs.YteecmgonbdbhdaaDoor.A
end

/-
The law ScanRight.
-/
section
namespace Go.Proofs.YteecmgonbdbhdaaDoor.A
open Go.RowKit

/-- A right log: numbers, places, records one behind another. -/
def chainOk (g : Geo) : List Tx → Int → Int → Prop
  | [], _, _ => True
  | t :: r, seq, pos => (t.seq = seq ∧ t.pos = pos ∧ t.n = t.images.length + 1 ∧ 2 ≤ t.n) ∧ chainOk g r (seq + 1) ((pos + t.n).tmod g.sl)
def usedM : List Tx → Int
  | [] => 0
  | t :: r => t.n + usedM r
def posM (g : Geo) : List Tx → Int → Int
  | [], pos => pos
  | t :: r, pos => posM g r ((pos + t.n).tmod g.sl)
theorem chain_app (g : Geo) : ∀ (l : List Tx) (seq pos : Int) (t : Tx), chainOk g l seq pos → (t.seq = seq + l.length ∧ t.pos = posM g l pos ∧ t.n = t.images.length + 1 ∧ 2 ≤ t.n) → chainOk g (l ++ [t]) seq pos
  | [], seq, pos, t, _, h => ⟨⟨by have := h.1; simpa using this, h.2.1, h.2.2.1, h.2.2.2⟩, trivial⟩
  | x :: r, seq, pos, t, h, ht => by
    refine ⟨h.1, chain_app g r (seq + 1) _ t h.2 ⟨?_, ht.2⟩⟩
    rw [ht.1]
    simp only [List.length_cons]
    omega
theorem used_app : ∀ (l : List Tx) (t : Tx), usedM (l ++ [t]) = usedM l + t.n
  | [], t => by simp [usedM]
  | x :: r, t => by simp only [List.cons_append, usedM, used_app r t]; omega
theorem pos_app (g : Geo) : ∀ (l : List Tx) (pos : Int) (t : Tx), posM g (l ++ [t]) pos = ((posM g l pos) + t.n).tmod g.sl
  | [], pos, t => rfl
  | x :: r, pos, t => by simp only [List.cons_append, posM]; exact pos_app g r _ t
/-- A transaction that is found has one image less than records. -/
theorem gather_imgs {g : Geo} {a : An} {seq left n : Int} {look : Int → Rc × Int × List Wr} (hlook : ∀ i, 1 ≤ i → i < n → (look i).2.1 = 1 → okR g (look i).1 = true ∧ isOne (look i).1 a seq i n left = true) : ∀ (f : Nat) (k : Int) (r : Rc) (im : List Img) (w : List Wr), 1 ≤ k → k + f = n → okR g r = true → r.at_ = k - 1 → r.of_ = n → r.kind ≠ 0 → (im.length : Int) = k - 1 → (gatherM look f k r im w).1 = 1 → ((gatherM look f k r im w).2.1.length : Int) + 1 = n
  | 0, k, r, im, w, hk, hn, hr, ha, ho, h0, hi, _ => by
    have hk1 : r.kind ≠ 1 := by
      intro e
      unfold okR behOk at hr
      simp only [Bool.and_eq_true] at hr
      have h2 := hr.2
      rw [if_neg h0, if_pos e] at h2
      simp only [Bool.and_eq_true, inB_iff] at h2
      omega
    unfold gatherM
    simp only [if_neg hk1]
    omega
  | f + 1, k, r, im, w, hk, hn, hr, ha, ho, h0, hi, hG => by
    have hk1 : r.kind = 1 := by
      unfold okR behOk at hr
      simp only [Bool.and_eq_true] at hr
      have h2 := hr.2
      rw [if_neg h0] at h2
      split at h2
      · assumption
      · split at h2
        · simp only [Bool.and_eq_true, beq_iff_eq] at h2
          omega
        · cases h2
    unfold gatherM at hG ⊢
    simp only [if_pos hk1] at hG ⊢
    by_cases hq : (look k).2.1 ≠ 1
    · rw [if_pos hq] at hG
      exact absurd hG hq
    · rw [if_neg hq] at hG ⊢
      have hl := hlook k hk (by omega) (by omega)
      have h1 := one_of hl.1 hl.2
      have h2 := (of_decide_eq_true hl.2).1
      refine gather_imgs hlook f (k + 1) (look k).1 _ _ (by omega) (by omega) hl.1 (by omega) ?_ h2 ?_ hG
      · exact h1.2.2.2.2.2 (by omega)
      · rw [List.length_append]
        simp only [List.length_cons, List.length_nil]
        omega
theorem txnM_imgs {g : Geo} {a : An} {x y : List Gt} {pos seq left : Int} (hg : okG g = true) (hp : 0 ≤ pos ∧ pos < g.sl) (h : (txnM g a x y pos seq left).1 = 1) : ((txnM g a x y pos seq left).2.2.1.length : Int) + 1 = (txnM g a x y pos seq left).2.1 := by
  have r0 := recM_facts (a := a) (x := x) (y := y) (seq := seq) (left := left) (of_ := 0) (at_ := 0) hg hp (by omega)
  unfold txnM at h ⊢
  simp only at h ⊢
  rcases r0 with ⟨e1, ⟨e2, -, e3⟩, e4⟩ | ⟨e1, -, -⟩
  · rw [if_neg (by omega)] at h ⊢
    have hN := one_of e2 e3
    have h0 := (of_decide_eq_true e3).1
    by_cases hq : (gatherM (fun k => recM g a x y pos seq left k (recM g a x y pos seq left 0 0).1.of_) ((recM g a x y pos seq left 0 0).1.of_ - 1).toNat 1 (recM g a x y pos seq left 0 0).1 [] (recM g a x y pos seq left 0 0).2.2).1 ≠ 1
    · rw [if_pos hq] at h
      exact absurd h hq
    · rw [if_neg hq]
      refine gather_imgs (g := g) (a := a) (seq := seq) (left := left) (n := (recM g a x y pos seq left 0 0).1.of_) (look := fun k => recM g a x y pos seq left k (recM g a x y pos seq left 0 0).1.of_) (fun i h1 h2 h3 => ?_) _ 1 _ [] _ (by omega) (by omega) e2 (by omega) rfl h0 (by simp) (by omega)
      rcases recM_facts (a := a) (x := x) (y := y) (seq := seq) (left := left) (of_ := (recM g a x y pos seq left 0 0).1.of_) (at_ := i) hg hp (by omega) with ⟨_, ⟨q1, _, q2⟩, _⟩ | ⟨q, _⟩
      · exact ⟨q1, q2⟩
      · omega
  · rw [if_pos (by omega)] at h
    simp only at h
    omega
theorem scanL_right {g : Geo} {a : An} {x y : List Gt} (hg : okG g = true) : ∀ (f : Nat) (pos seq left : Int) (l : List Tx) (w : List Wr) {l' : List Tx} {w' : List Wr} {seq' : Int}, chainOk g l a.seq a.pos → pos = posM g l a.pos → seq = a.seq + l.length → usedM l + left = g.sl → 0 ≤ left → (0 ≤ pos ∧ pos < g.sl) → scanL g a x y f pos seq left l w = some (l', w', seq') →
    chainOk g l' a.seq a.pos ∧ seq' = a.seq + l'.length ∧ usedM l' ≤ g.sl
  | 0, pos, seq, left, l, w, l', w', seq', h1, h2, h3, h4, h5, h6, h => by
    unfold scanL at h
    injection h with h
    injection h with e1 h
    injection h with e2 e3
    subst e1
    subst e3
    exact ⟨h1, h3, by omega⟩
  | f + 1, pos, seq, left, l, w, l', w', seq', h1, h2, h3, h4, h5, h6, h => by
    unfold scanL at h
    have fin : some (l, w, seq) = some (l', w', seq') → chainOk g l' a.seq a.pos ∧ seq' = a.seq + l'.length ∧ usedM l' ≤ g.sl := fun h => by
      injection h with h
      injection h with e1 h
      injection h with e2 e3
      subst e1
      subst e3
      exact ⟨h1, h3, by omega⟩
    by_cases hc : 0 < left ∧ seq ≤ 4294967295
    · rw [if_pos hc] at h
      simp only at h
      have tf := txnM_facts (a := a) (x := x) (y := y) (seq := seq) (left := left) hg h6
      have ti := fun e => txnM_imgs (a := a) (x := x) (y := y) (seq := seq) (left := left) hg h6 e
      generalize txnM g a x y pos seq left = q at tf ti h
      obtain ⟨how, n, im, ws⟩ := q
      simp only at tf ti h
      rcases tf with ⟨rfl, t1, t2⟩ | tf
      · rw [if_neg (by decide), if_neg (by decide)] at h
        have hi := ti rfl
        obtain ⟨g1, g2, g3, g4, g5⟩ := okG_iff.1 hg
        have hm := Int.tmod_lt_of_pos (pos + n) (show 0 < g.sl by omega)
        have hm0 := Int.tmod_nonneg g.sl (show 0 ≤ pos + n by omega)
        refine scanL_right hg f _ _ _ _ _ (chain_app g l a.seq a.pos ⟨seq, pos, n, im⟩ h1 ⟨h3, h2, by simp only; omega, t1.1⟩) ?_ ?_ ?_ (by omega) ⟨hm0, hm⟩ h
        · rw [pos_app, ← h2]
        · rw [List.length_append]
          simp only [List.length_cons, List.length_nil]
          omega
        · rw [used_app]
          simp only
          omega
      · by_cases h3' : how = 3
        · rw [if_pos h3'] at h
          cases h
        · rw [if_neg h3', if_pos (by omega)] at h
          exact fin h
    · rw [if_neg hc] at h
      exact fin h
/-- What a scan finds is a right log. -/
theorem scanM_right {g : Geo} {a : An} {x y : List Gt} (hg : okG g = true) (ha : anOk g a = true) :
    ((scanM g a x y).2.2 = 0 ∧ chainOk g (scanM g a x y).1 a.seq a.pos ∧ usedM (scanM g a x y).1 ≤ g.sl ∧ a.last ≤ a.seq + (scanM g a x y).1.length - 1) ∨ ((scanM g a x y).2.2 ≠ 0 ∧ (scanM g a x y).1 = []) := by
  obtain ⟨g1, g2, g3, g4, g5⟩ := okG_iff.1 hg
  have hq := anOk_seq ha
  unfold scanM
  cases hR : scanL g a x y g.sl.toNat a.pos a.seq g.sl [] [] with
  | none => exact .inr ⟨by simp [finM, damaged], rfl⟩
  | some q =>
    obtain ⟨l, w, seq⟩ := q
    obtain ⟨c1, c2, c3⟩ := scanL_right hg _ _ _ _ _ _ (l' := l) (w' := w) (seq' := seq) (show chainOk g [] a.seq a.pos from trivial) rfl (by simp) (by simp [usedM]) (by omega) hq.2 hR
    by_cases hl : seq - 1 < a.last
    · rw [finM_pos hl]
      exact .inr ⟨by simp [damaged], rfl⟩
    · rw [finM_neg hl]
      exact .inl ⟨rfl, c1, c3, by simp only; omega⟩
theorem scanA_right {g : Geo} {a : An} {x y : List Gt} :
    ((scanA g a x y).2.2 = 0 ∧ (okG g = true ∧ anOk g a = true) ∧ chainOk g (scanA g a x y).1 a.seq a.pos ∧ usedM (scanA g a x y).1 ≤ g.sl ∧ a.last ≤ a.seq + (scanA g a x y).1.length - 1) ∨ ((scanA g a x y).2.2 ≠ 0 ∧ (scanA g a x y).1 = []) := by
  unfold scanA
  cases hA : okG g && anOk g a with
  | false => exact .inr ⟨by rw [if_neg Bool.false_ne_true]; decide, rfl⟩
  | true =>
    obtain ⟨hg, ha⟩ := Bool.and_eq_true_iff.1 hA
    rw [if_pos rfl]
    by_cases hx : (x.length : Int) = g.sl ∧ (y.length : Int) = g.sl
    · rw [if_pos hx]
      exact (scanM_right hg ha).imp (fun h => ⟨h.1, ⟨hg, ha⟩, h.2⟩) id
    · rw [if_neg hx]
      exact .inr ⟨by decide, rfl⟩
theorem chain_used {g : Geo} : ∀ {l : List Tx} {seq pos : Int}, chainOk g l seq pos → 2 * (l.length : Int) ≤ usedM l
  | [], _, _, _ => by simp [usedM]
  | t :: r, seq, pos, h => by
    have := chain_used h.2
    have := h.1.2.2.2
    simp only [List.length_cons, usedM]
    omega
set_option maxRecDepth 100000 in
theorem sright_fn (g : Geo) (a : An) (x y : List Gt) : Fn Tryd.prog 10 [.ag (geoC g), .ag (anC a), gotsA x, gotsA y] fun r => r = .v (.bool true) := by
  have hw := wakes18_fn
  refine Fn.of tys_ok Tryd.func10 rfl rfl (Nat.le_of_ble_eq_true rfl) ?_
  conv => whnf
  refine Fn.closed (heavyA_fn a) rfl ?_
  rintro _ rfl
  conv => whnf
  refine boolI (fun t1 => ?_) (fun t1 => ?_) <;> (repeat rw [Int.toNat_natCast] at t1) <;> conv => whnf
  · exact ⟨_, fun _ _ h => h, rfl⟩
  obtain ⟨hh, hl⟩ := heavyA_no t1
  refine Fn.closed (heavyG_fn x) rfl ?_
  rintro _ rfl
  conv => whnf
  refine boolI (fun t2 => ?_) (fun t2 => ?_) <;> (repeat rw [Int.toNat_natCast] at t2) <;> conv => whnf
  · exact ⟨_, fun _ _ h => h, rfl⟩
  refine Fn.closed (heavyG_fn y) rfl ?_
  rintro _ rfl
  conv => whnf
  refine boolI (fun t3 => ?_) (fun t3 => ?_) <;> (repeat rw [Int.toNat_natCast] at t3) <;> conv => whnf
  · exact ⟨_, fun _ _ h => h, rfl⟩
  obtain ⟨hx1, hx2⟩ := heavyG_no t2
  obtain ⟨hy1, hy2⟩ := heavyG_no t3
  have sc := scan_fn g a x y (by omega) (by omega) (fun z hz => by have := hx2 z hz; omega) (fun z hz => by have := hy2 z hz; omega)
  have hS := scanA_right (g := g) (a := a) (x := x) (y := y)
  generalize scanA g a x y = S at sc hS
  obtain ⟨l, w, e⟩ := S
  dsimp only at sc hS
  rcases hS with ⟨rfl, ⟨hg, ha⟩, hC, hU, hL⟩ | ⟨he, rfl⟩
  · obtain ⟨g1, g2, g3, g4, g5⟩ := okG_iff.1 hg
    have hq := anOk_seq ha
    have hlen := chain_used hC
    refine Fn.closed (sc) rfl ?_
    rintro _ rfl
    conv => whnf
    refine aLoop.rule (Nat × Int × Int) (fun z => ([(4, .bp 0 0), (5, .bp 1 0), (9, txsA l), (12, .v (.int .i64 z.2.1)), (13, .v (.int .i64 z.2.2)), (14, .v (.int .i64 z.1))], [.box 23 (geoC g), .box 26 (anC a)]))
      (fun z => z.1 ≤ l.length ∧ chainOk g (l.drop z.1) (a.seq + z.1) z.2.1 ∧ z.2.2 + usedM (l.drop z.1) = usedM l ∧ (0 ≤ z.2.1 ∧ z.2.1 < g.sl) ∧ 0 ≤ z.2.2)
      (fun z => l.length - z.1) (0, a.pos, 0) ⟨Nat.zero_le _, by simpa using hC, by simp, hq.2, Int.le_refl 0⟩ ⟨[], trivial, ⟨rfl, rfl, rfl, rfl, rfl, rfl, trivial⟩, ⟨rfl, rfl, trivial⟩, rfl, rfl, rfl⟩ ?_
    rintro ⟨k, pos, used⟩ ⟨b1, b2, b3, b4, b5⟩
    dsimp only at b1 b2 b3 b4 b5 ⊢
    conv => whnf
    refine boolI (fun c1 => ?_) (fun c1 => ?_) <;> (repeat rw [Int.toNat_natCast] at c1) <;> conv => whnf
    · have hd : l.drop k = l.getD k ⟨0, 0, 0, []⟩ :: l.drop (k + 1) := by
        rw [List.drop_eq_getElem_cons c1, List.getD_eq_getElem?_getD, List.getElem?_eq_getElem c1]
        rfl
      rw [hd] at b2 b3
      obtain ⟨⟨e1, e2, e3, e4⟩, b2⟩ := b2
      simp only [usedM] at b3
      have hr := chain_used b2
      have w1 : IntKind.i64.wrap (a.seq + k) = a.seq + k := by rw [IntKind.wrap_i64]; omega
      have w2 : IntKind.i64.wrap (((l.getD k ⟨0, 0, 0, []⟩).images.length : Int) + 1) = (l.getD k ⟨0, 0, 0, []⟩).images.length + 1 := by rw [IntKind.wrap_i64]; omega
      have w3 : IntKind.i64.wrap (pos + (l.getD k ⟨0, 0, 0, []⟩).n) = pos + (l.getD k ⟨0, 0, 0, []⟩).n := by rw [IntKind.wrap_i64]; omega
      have w4 : IntKind.i64.wrap (used + (l.getD k ⟨0, 0, 0, []⟩).n) = used + (l.getD k ⟨0, 0, 0, []⟩).n := by rw [IntKind.wrap_i64]; omega
      have hm := Int.tmod_lt_of_pos (pos + (l.getD k ⟨0, 0, 0, []⟩).n) (show 0 < g.sl by omega)
      have hm0 := Int.tmod_nonneg g.sl (show 0 ≤ pos + (l.getD k ⟨0, 0, 0, []⟩).n by omega)
      refine aDraw.of tys_ok mixed [0, 1, 2, 3, 4, 5, 6, 7, 8, 9, 10, 11, 12, 13, 14, 15, 16, 17, 18, 19, 20, 21, 22, 23, 24, 25, 26, 27, 28, 29, 30, 31, 32, 33, 34, 35, 36, 37, 38, 39, 40, 41] (by kernel_rfl) ?_
      conv => whnf
      refine ⟨by omega, ?_⟩
      conv => whnf
      rw [w1]
      conv => whnf
      refine boolI (fun d1 => ?_) (fun d1 => ?_) <;> (repeat rw [Int.toNat_natCast] at d1) <;> conv => whnf
      · exact absurd e1 d1
      refine ⟨by omega, ?_⟩
      conv => whnf
      refine boolI (fun d2 => ?_) (fun d2 => ?_) <;> (repeat rw [Int.toNat_natCast] at d2) <;> conv => whnf
      · exact absurd e2 d2
      refine ⟨by omega, ?_⟩
      conv => whnf
      refine ⟨by omega, ?_⟩
      conv => whnf
      rw [Int.toNat_natCast, w2]
      conv => whnf
      refine boolI (fun d3 => ?_) (fun d3 => ?_) <;> (repeat rw [Int.toNat_natCast] at d3) <;> conv => whnf
      · exact absurd e3 d3
      refine ⟨by omega, ?_⟩
      conv => whnf
      refine boolI (fun d4 => ?_) (fun d4 => ?_) <;> (repeat rw [Int.toNat_natCast] at d4) <;> conv => whnf
      · exfalso; omega
      refine aDraw.of tys_ok mixed [0, 1, 2, 3, 4, 5, 6, 7, 8, 9, 10, 11, 12, 13, 14, 15, 16, 17, 18] (by kernel_rfl) ?_
      conv => whnf
      repeat' (refine And.intro (by omega) ?_; conv => whnf)
      rw [Int.toNat_natCast, w3, w4]
      refine ⟨(k + 1, (pos + (l.getD k ⟨0, 0, 0, []⟩).n).tmod g.sl, used + (l.getD k ⟨0, 0, 0, []⟩).n), ⟨by omega, ?_, by dsimp only; omega, ⟨hm0, hm⟩, by dsimp only; omega⟩, by dsimp only; omega, [], trivial, ⟨rfl, rfl, rfl, rfl, rfl, wsucc (by omega), trivial⟩, ⟨rfl, rfl, trivial⟩, rfl, rfl, rfl⟩
      rw [show a.seq + (((k + 1 : Nat)) : Int) = a.seq + (k : Int) + 1 by omega]
      exact b2
    · have ek : k = l.length := by omega
      subst ek
      rw [List.drop_length] at b3
      simp only [usedM] at b3
      have w5 : IntKind.i64.wrap (a.seq + l.length) = a.seq + l.length := by rw [IntKind.wrap_i64]; omega
      have w6 : IntKind.i64.wrap (a.seq + l.length - 1) = a.seq + l.length - 1 := by rw [IntKind.wrap_i64]; omega
      refine boolI (fun f1 => ?_) (fun f1 => ?_) <;> (repeat rw [Int.toNat_natCast] at f1) <;> conv => whnf
      · rw [w5, w6]
        conv => whnf
        refine boolI (fun f2 => ?_) (fun f2 => ?_) <;> (repeat rw [Int.toNat_natCast] at f2) <;> conv => whnf
        · repeat' (first | (refine aSeq.go ?_; conv => whnf) | (refine boolI (fun _ => ?_) (fun _ => ?_) <;> conv => whnf) | (refine Fn.closed (hw) rfl ?_; rintro _ rfl; conv => whnf) | (refine And.intro (by first | omega | exact of_decide_eq_true rfl) ?_; conv => whnf) | fail)
          exact ⟨_, fun _ _ h => h, rfl⟩
        · exfalso; omega
      · exfalso; omega
  · refine Fn.closed (sc) rfl ?_
    rintro _ rfl
    conv => whnf
    refine boolI (fun t4 => ?_) (fun t4 => ?_) <;> (repeat rw [Int.toNat_natCast] at t4) <;> conv => whnf
    · repeat' (first | (refine aSeq.go ?_; conv => whnf) | (refine boolI (fun _ => ?_) (fun _ => ?_) <;> conv => whnf) | (refine Fn.closed (hw) rfl ?_; rintro _ rfl; conv => whnf) | (refine And.intro (by first | omega | exact of_decide_eq_true rfl) ?_; conv => whnf) | fail)
      exact ⟨_, fun _ _ h => h, rfl⟩
    · exact absurd t4 he
end Go.Proofs.YteecmgonbdbhdaaDoor.A
end

/-
A log whose every record some copy says is gone through to its end.
-/
section
namespace Go.Proofs.YteecmgonbdbhdaaDoor.A
open Go.RowKit

def SaysAll (g : Geo) (a : An) (ep : Int) (p q : Int → Option Rc) (l : List Tx) : Prop :=
  ∀ t ∈ l, (ep = a.epoch ∨ t.seq ≤ a.last ∧ ep ≤ a.epoch) ∧ ∀ k : Nat, k < t.images.length + 1 → (p (slotM g t.pos k) = some ((recsOf t.seq ep t.images).getD k rc0) ∨ p (slotM g t.pos k) = none) ∧ (q (slotM g t.pos k) = some ((recsOf t.seq ep t.images).getD k rc0) ∨ q (slotM g t.pos k) = none) ∧ ¬ (p (slotM g t.pos k) = none ∧ q (slotM g t.pos k) = none)
theorem scanLP_log {g : Geo} {a : An} {fill : UInt8} {p q : Int → Option Rc} {ep : Int} (hg : okG g = true) (hsq : a.seq ≤ 1000000) : ∀ (sizes : List Int) (i : Nat) (pos used : Int) (l0 : List Tx) (w : List Wr) (f : Nat), 0 ≤ used ∧ used ≤ g.sl → (0 ≤ pos ∧ pos < g.sl) → i ≤ 100 → sizes.length + i ≤ 100 → g.sl - used ≤ (f : Nat) → SaysAll g a ep p q (logM g a fill sizes i pos used) →
    ∃ (w' : List Wr) (f' : Nat) (pos' : Int), g.sl - (used + usedM (logM g a fill sizes i pos used)) ≤ (f' : Nat) ∧ pos' = posM g (logM g a fill sizes i pos used) pos ∧ used + usedM (logM g a fill sizes i pos used) ≤ g.sl ∧
      scanLP g a p q f pos (a.seq + i) (g.sl - used) l0 w = scanLP g a p q f' pos' (a.seq + i + (logM g a fill sizes i pos used).length) (g.sl - (used + usedM (logM g a fill sizes i pos used))) (l0 ++ logM g a fill sizes i pos used) w'
  | [], i, pos, used, l0, w, f, hu, hp, hi, hl, hf, hs => ⟨w, f, pos, by simp [logM, usedM]; omega, rfl, by simp [logM, usedM]; omega, by simp [logM, usedM]⟩
  | s :: r, i, pos, used, l0, w, f, hu, hp, hi, hl, hf, hs => by
    obtain ⟨h1, h2, h3, h4, h5⟩ := okG_iff.1 hg
    have hn := nImg_in s
    simp only [List.length_cons] at hl
    unfold logM at hs ⊢
    by_cases hc : g.sl < used + (nImg s : Nat) + 1
    · rw [if_pos hc] at hs ⊢
      exact ⟨w, f, pos, by simp [usedM]; omega, rfl, by simp [usedM]; omega, by simp [usedM]⟩
    · rw [if_neg hc] at hs ⊢
      obtain ⟨t1, t2⟩ := hs (logTx g a fill i pos (nImg s)) (by simp)
      have il : (logTx g a fill i pos (nImg s)).images.length = nImg s := by simp [logTx]
      have tf := txnP_found (g := g) (a := a) (p := p) (q := q) (pos := pos) (seq := a.seq + i) (left := g.sl - used) (ep := ep) (imgs := (logTx g a fill i pos (nImg s)).images) (by omega) (by omega) t1 t2
      rw [il] at tf
      have hm := Int.tmod_lt_of_pos (pos + (nImg s : Nat) + 1) (show 0 < g.sl by omega)
      have hm0 := Int.tmod_nonneg g.sl (show 0 ≤ pos + (nImg s : Nat) + 1 by omega)
      cases f with
      | zero => exfalso; omega
      | succ f =>
        obtain ⟨w', f', pos', e1, e2, e3, e4⟩ := scanLP_log (fill := fill) hg hsq r (i + 1) ((pos + (nImg s : Nat) + 1).tmod g.sl) (used + (nImg s : Nat) + 1) (l0 ++ [logTx g a fill i pos (nImg s)]) (w ++ (txnP g a p q pos (a.seq + i) (g.sl - used)).2.2.2) f (by omega) ⟨hm0, hm⟩ (by omega) (by omega) (by omega) (fun t ht => hs t (List.mem_cons_of_mem _ ht))
        refine ⟨w', f', pos', ?_, ?_, ?_, ?_⟩
        · simp only [usedM, logTx] at e1 ⊢
          omega
        · simp only [posM, logTx]
          rw [e2, Int.add_assoc]
        · simp only [usedM, logTx] at e3 ⊢
          omega
        · have ea : a.seq + (((i + 1 : Nat)) : Int) = a.seq + (i : Int) + 1 := by omega
          rw [ea] at e4
          have hstep : scanLP g a p q (f + 1) pos (a.seq + i) (g.sl - used) l0 w = scanLP g a p q f ((pos + (nImg s : Nat) + 1).tmod g.sl) (a.seq + i + 1) (g.sl - (used + (nImg s : Nat) + 1)) (l0 ++ [logTx g a fill i pos (nImg s)]) (w ++ (txnP g a p q pos (a.seq + i) (g.sl - used)).2.2.2) := by
            conv => lhs; unfold scanLP
            rw [if_pos (by omega)]
            simp only [tf.1, tf.2.1, tf.2.2]
            rw [if_neg (by decide), if_neg (by decide)]
            rw [show pos + (((nImg s : Nat) : Int) + 1) = pos + (nImg s : Nat) + 1 by omega, show g.sl - used - (((nImg s : Nat) : Int) + 1) = g.sl - (used + (nImg s : Nat) + 1) by omega]
            rfl
          rw [hstep, e4]
          simp only [usedM, logTx, List.length_cons, List.append_assoc, List.cons_append, List.nil_append]
          congr 1 <;> omega
end Go.Proofs.YteecmgonbdbhdaaDoor.A
end

/-
What a written log says at a transaction's slots.
-/
section
namespace Go.Proofs.YteecmgonbdbhdaaDoor.A
open Go.RowKit

theorem logTx_n (g : Geo) (a : An) (fill : UInt8) (i : Nat) (pos : Int) (n : Nat) : (logTx g a fill i pos n).n = (n : Int) + 1 := rfl
theorem logM_at {g : Geo} {a : An} {fill : UInt8} {p0 : Int} (hg : okG g = true) (hp : 0 ≤ p0) : ∀ (sizes : List Int) (i i0 : Nat) (used : Int), 0 ≤ used → ∀ j, j < (logM g a fill sizes i ((p0 + used).tmod g.sl) used).length →
    ∃ o : Int, used ≤ o ∧ o + ((logM g a fill sizes i ((p0 + used).tmod g.sl) used).getD j tz).n ≤ g.sl ∧ ((logM g a fill sizes i ((p0 + used).tmod g.sl) used).getD j tz).pos = (p0 + o).tmod g.sl ∧
      ∀ k : Nat, (k : Int) < ((logM g a fill sizes i ((p0 + used).tmod g.sl) used).getD j tz).n → findU (logM g a fill sizes i ((p0 + used).tmod g.sl) used) used i0 (o + k) = some (i0 + j, ((k : Nat) : Int))
  | [], i, i0, used, hu, j, hj => by simp [logM] at hj
  | s :: r, i, i0, used, hu, j, hj => by
    obtain ⟨h1, h2, h3, h4, h5⟩ := okG_iff.1 hg
    have hn := nImg_in s
    have ep : ((p0 + used).tmod g.sl + (nImg s : Nat) + 1).tmod g.sl = (p0 + (used + (nImg s : Nat) + 1)).tmod g.sl := by
      rw [Int.tmod_eq_emod_of_nonneg (show 0 ≤ p0 + used by omega)]
      have q := Int.emod_nonneg (p0 + used) (show g.sl ≠ 0 by omega)
      rw [Int.tmod_eq_emod_of_nonneg (by omega), Int.tmod_eq_emod_of_nonneg (by omega), Int.add_assoc, Int.emod_add_emod, show p0 + used + ((nImg s : Nat) + 1) = p0 + (used + (nImg s : Nat) + 1) by omega]
    unfold logM at hj ⊢
    split at hj
    · simp at hj
    · rename_i hc
      rw [if_neg hc]
      cases j with
      | zero =>
        refine ⟨used, Int.le_refl _, show used + ((nImg s : Nat) + 1 : Int) ≤ g.sl by omega, rfl, fun k hk => ?_⟩
        have hk : (k : Int) < (nImg s : Nat) + 1 := hk
        unfold findU
        rw [logTx_n, if_pos (show used ≤ used + (k : Int) ∧ used + (k : Int) < used + ((nImg s : Nat) + 1 : Int) by omega)]
        simp only [Nat.add_zero]
        rw [show used + (k : Int) - used = (k : Int) by omega]
      | succ j =>
        rw [ep] at hj ⊢
        obtain ⟨o, o1, o2, o3, o4⟩ := logM_at (a := a) (fill := fill) hg hp r (i + 1) (i0 + 1) (used + (nImg s : Nat) + 1) (by omega) j (by simpa using hj)
        refine ⟨o, by omega, o2, o3, fun k hk => ?_⟩
        unfold findU
        rw [logTx_n, if_neg (show ¬ (used ≤ o + (k : Int) ∧ o + (k : Int) < used + ((nImg s : Nat) + 1 : Int)) by omega)]
        have := o4 k hk
        rw [show i0 + 1 + j = i0 + (j + 1) by omega] at this
        rw [← this, Int.add_assoc]
end Go.Proofs.YteecmgonbdbhdaaDoor.A
end

/-
What a written log says at each of its records' slots.
-/
section
namespace Go.Proofs.YteecmgonbdbhdaaDoor.A
open Go.RowKit

theorem recW_at {g : Geo} {a : An} {fill : UInt8} {sizes : List Int} {ep : Int} (hg : okG g = true) (ha : anOk g a = true) {j k : Nat} (hj : j < (logM g a fill sizes 0 a.pos 0).length) (hk : k < ((logM g a fill sizes 0 a.pos 0).getD j tz).images.length + 1) :
    (0 ≤ slotM g ((logM g a fill sizes 0 a.pos 0).getD j tz).pos k ∧ slotM g ((logM g a fill sizes 0 a.pos 0).getD j tz).pos k < g.sl) ∧
    recW g (logM g a fill sizes 0 a.pos 0) ep (slotM g ((logM g a fill sizes 0 a.pos 0).getD j tz).pos k) = (recsOf ((logM g a fill sizes 0 a.pos 0).getD j tz).seq ep ((logM g a fill sizes 0 a.pos 0).getD j tz).images).getD k rc0 := by
  obtain ⟨h1, h2, h3, h4, h5⟩ := okG_iff.1 hg
  have hq := anOk_seq ha
  have e0 : (a.pos + 0).tmod g.sl = a.pos := by rw [Int.add_zero]; exact tmod_lo hq.2.1 hq.2.2
  have hin := logM_in (a := a) (fill := fill) hg sizes 0 a.pos 0 hq.2
  obtain ⟨pos, n, e, n1, n2, p1, p2⟩ := hin.at_ j hj
  obtain ⟨o, o1, o2, o3, o4⟩ := logM_at (a := a) (fill := fill) (p0 := a.pos) hg hq.2.1 sizes 0 0 0 (Int.le_refl 0) j (by rw [e0]; exact hj)
  rw [e0] at o2 o3 o4
  have hN : ((logM g a fill sizes 0 a.pos 0).getD j tz).n = n + 1 := by rw [e]; rfl
  have hI : ((logM g a fill sizes 0 a.pos 0).getD j tz).images.length = n := by rw [e]; simp [logTx]
  have hs : slotM g ((logM g a fill sizes 0 a.pos 0).getD j tz).pos k = (a.pos + (o + k)).tmod g.sl := by
    unfold slotM
    have q1 := Int.tmod_nonneg g.sl (show 0 ≤ a.pos + o by omega)
    have q2 := Int.tmod_lt_of_pos (a.pos + o) (show 0 < g.sl by omega)
    rw [o3, show IntKind.i64.wrap ((a.pos + o).tmod g.sl + (k : Int)) = (a.pos + o).tmod g.sl + k by rw [IntKind.wrap_i64]; omega]
    rw [Int.tmod_eq_emod_of_nonneg (show 0 ≤ a.pos + o by omega)] at q1 ⊢
    rw [Int.tmod_eq_emod_of_nonneg (by omega), Int.tmod_eq_emod_of_nonneg (by omega), Int.emod_add_emod, Int.add_assoc]
  have hw := who_log (a := a) (fill := fill) hg (p0 := a.pos) hq.2 (u := o + k) (by omega) sizes 0 0 0 ⟨Int.le_refl 0, by omega⟩
  rw [e0, o4 k (by omega)] at hw
  refine ⟨slotM_in hg (by rw [e]; exact ⟨p1, p2⟩) (by omega), ?_⟩
  rw [hs]
  unfold recW
  rw [hw]
  simp only [Nat.zero_add, Int.toNat_natCast]
  rfl
theorem saysAll_W {g : Geo} {a b : An} {fill : UInt8} {sizes : List Int} {ep : Int} {bad0 bad1 : Int → Bool} (hg : okG g = true) (ha : anOk g a = true) (hb : ∀ s, (bad0 s && bad1 s) = false) (he : ∀ t ∈ logM g a fill sizes 0 a.pos 0, ep = b.epoch ∨ t.seq ≤ b.last ∧ ep ≤ b.epoch) :
    SaysAll g b ep (saysW g (logM g a fill sizes 0 a.pos 0) ep bad0) (saysW g (logM g a fill sizes 0 a.pos 0) ep bad1) (logM g a fill sizes 0 a.pos 0) := by
  intro t ht
  refine ⟨he t ht, fun k hk => ?_⟩
  obtain ⟨j, hj, rfl⟩ := List.mem_iff_getElem.1 ht
  have ej : (logM g a fill sizes 0 a.pos 0)[j] = (logM g a fill sizes 0 a.pos 0).getD j tz := by rw [List.getD_eq_getElem?_getD, List.getElem?_eq_getElem hj]; rfl
  rw [ej] at hk ⊢
  obtain ⟨q1, q2⟩ := recW_at (fill := fill) (sizes := sizes) (ep := ep) hg ha hj hk
  unfold saysW
  rw [if_pos q1, if_pos q1, q2]
  have hbs := hb (slotM g ((logM g a fill sizes 0 a.pos 0).getD j tz).pos k)
  cases h0 : bad0 (slotM g ((logM g a fill sizes 0 a.pos 0).getD j tz).pos k) <;> cases h1 : bad1 (slotM g ((logM g a fill sizes 0 a.pos 0).getD j tz).pos k)
  · simp
  · simp
  · simp
  · rw [h0, h1] at hbs
    cases hbs
end Go.Proofs.YteecmgonbdbhdaaDoor.A
end

/-
A written log, with one copy of each slot at least, is found wholly.
-/
section
namespace Go.Proofs.YteecmgonbdbhdaaDoor.A
open Go.RowKit

theorem posM_used {g : Geo} (hg : okG g = true) : ∀ (l : List Tx) (x : Int), 0 ≤ x → (∀ t ∈ l, 0 ≤ t.n) → posM g l (x.tmod g.sl) = (x + usedM l).tmod g.sl
  | [], x, hx, _ => by simp [posM, usedM]
  | t :: r, x, hx, h => by
    obtain ⟨h1, h2, h3, h4, h5⟩ := okG_iff.1 hg
    have ht := h t (by simp)
    have ih := posM_used hg r (x + t.n) (by omega) (fun t ht => h t (List.mem_cons_of_mem _ ht))
    have e : (x.tmod g.sl + t.n).tmod g.sl = (x + t.n).tmod g.sl := by
      rw [Int.tmod_eq_emod_of_nonneg hx]
      have q := Int.emod_nonneg x (show g.sl ≠ 0 by omega)
      rw [Int.tmod_eq_emod_of_nonneg (by omega), Int.tmod_eq_emod_of_nonneg (by omega), Int.emod_add_emod]
    simp only [posM, usedM]
    rw [e, ih, Int.add_assoc]
theorem findU_none : ∀ (l : List Tx) (used : Int) (i : Nat) (u : Int), (∀ t ∈ l, 0 ≤ t.n) → used + usedM l ≤ u → findU l used i u = none
  | [], _, _, _, _, _ => rfl
  | t :: r, used, i, u, h, hu => by
    have ht := h t (by simp)
    simp only [usedM] at hu
    have hr : 0 ≤ usedM r := by
      have : ∀ l : List Tx, (∀ t ∈ l, 0 ≤ t.n) → 0 ≤ usedM l := by
        intro l
        induction l with
        | nil => intro _; simp [usedM]
        | cons x y ih => intro h; have := ih (fun t ht => h t (List.mem_cons_of_mem _ ht)); have := h x (by simp); simp only [usedM]; omega
      exact this r fun t ht => h t (List.mem_cons_of_mem _ ht)
    unfold findU
    rw [if_neg (by omega)]
    exact findU_none r (used + t.n) (i + 1) u (fun t ht => h t (List.mem_cons_of_mem _ ht)) (by omega)
theorem scan_log {g : Geo} {a b : An} {fill : UInt8} {sizes : List Int} {ep : Int} {bad0 bad1 : Int → Bool} (hg : okG g = true) (ha : anOk g a = true) (hsq : a.seq ≤ 1000000) (hl : sizes.length ≤ 40) (hbs : b.seq = a.seq) (hbp : b.pos = a.pos) (hb : ∀ s, (bad0 s && bad1 s) = false) (he : ∀ t ∈ logM g a fill sizes 0 a.pos 0, ep = b.epoch ∨ t.seq ≤ b.last ∧ ep ≤ b.epoch) :
    ∃ w, scanP g b (saysW g (logM g a fill sizes 0 a.pos 0) ep bad0) (saysW g (logM g a fill sizes 0 a.pos 0) ep bad1) = finM b (some (logM g a fill sizes 0 a.pos 0, w, a.seq + (logM g a fill sizes 0 a.pos 0).length)) := by
  obtain ⟨h1, h2, h3, h4, h5⟩ := okG_iff.1 hg
  have hq := anOk_seq ha
  have hS := saysAll_W (b := b) (fill := fill) (sizes := sizes) (ep := ep) hg ha hb he
  have hin := logM_in (a := a) (fill := fill) hg sizes 0 a.pos 0 hq.2
  have hlen := logM_len (g := g) (a := a) (fill := fill) sizes 0 a.pos 0 (by omega)
  have hnn : ∀ t ∈ logM g a fill sizes 0 a.pos 0, 0 ≤ t.n := fun t ht => by
    obtain ⟨j, hj, rfl⟩ := List.mem_iff_getElem.1 ht
    obtain ⟨pos, n, e, -⟩ := hin.at_ j hj
    rw [List.getD_eq_getElem?_getD, List.getElem?_eq_getElem hj] at e
    simp only [Option.getD_some] at e
    rw [e]
    simp only [logTx]
    omega
  have hlog : ∀ i pos used, logM g b fill sizes i pos used = logM g a fill sizes i pos used := fun i pos used => by
    clear hS hin hlen hnn he hl
    induction sizes generalizing i pos used with
    | nil => rfl
    | cons s r ih =>
      unfold logM
      rw [ih]
      simp only [logTx, hbs]
  obtain ⟨w, f, pos', e1, e2, e3, e4⟩ := scanLP_log (a := b) (fill := fill) (p := saysW g (logM g a fill sizes 0 a.pos 0) ep bad0) (q := saysW g (logM g a fill sizes 0 a.pos 0) ep bad1) (ep := ep) hg (by omega) sizes 0 a.pos 0 [] [] g.sl.toNat ⟨Int.le_refl 0, by omega⟩ hq.2 (by omega) (by omega) (by omega) (by rw [hlog]; exact hS)
  rw [hlog] at e1 e2 e3 e4
  refine ⟨w, ?_⟩
  unfold scanP
  rw [hbp, hbs]
  simp only [Int.sub_zero, List.nil_append, hbs, Int.zero_add] at e1 e3 e4
  have e4' := e4
  simp only [Int.natCast_zero, Int.add_zero] at e4'
  rw [e4']
  congr 1
  cases f with
  | zero => rfl
  | succ f =>
    unfold scanLP
    by_cases hc : 0 < g.sl - usedM (logM g a fill sizes 0 a.pos 0) ∧ a.seq + ((logM g a fill sizes 0 a.pos 0).length : Int) ≤ 4294967295
    · rw [if_pos hc]
      have hu0 : 0 ≤ usedM (logM g a fill sizes 0 a.pos 0) := by
        have := e3
        have : ∀ l : List Tx, (∀ t ∈ l, 0 ≤ t.n) → 0 ≤ usedM l := by
          intro l
          induction l with
          | nil => intro _; simp [usedM]
          | cons x y ih => intro h; have := ih (fun t ht => h t (List.mem_cons_of_mem _ ht)); have := h x (by simp); simp only [usedM]; omega
        exact this _ hnn
      have e0 : (a.pos + 0).tmod g.sl = a.pos := by rw [Int.add_zero]; exact tmod_lo hq.2.1 hq.2.2
      have hpos : pos' = (a.pos + usedM (logM g a fill sizes 0 a.pos 0)).tmod g.sl := by
        have := posM_used hg (logM g a fill sizes 0 a.pos 0) a.pos hq.2.1 hnn
        rw [tmod_lo hq.2.1 hq.2.2] at this
        rw [e2]
        exact this
      have p1 := Int.tmod_nonneg g.sl (show 0 ≤ a.pos + usedM (logM g a fill sizes 0 a.pos 0) by omega)
      have p2 := Int.tmod_lt_of_pos (a.pos + usedM (logM g a fill sizes 0 a.pos 0)) (show 0 < g.sl by omega)
      rw [← hpos] at p1 p2
      have hslot : slotM g pos' 0 = pos' := by
        unfold slotM
        rw [Int.add_zero, show IntKind.i64.wrap pos' = pos' by rw [IntKind.wrap_i64]; omega]
        exact tmod_lo p1 p2
      have hw := who_log (a := a) (fill := fill) hg (p0 := a.pos) hq.2 (u := usedM (logM g a fill sizes 0 a.pos 0)) (by omega) sizes 0 0 0 ⟨Int.le_refl 0, by omega⟩
      rw [e0, findU_none _ 0 0 _ hnn (by omega), ← hpos] at hw
      have hr : recW g (logM g a fill sizes 0 a.pos 0) ep pos' = zeroC := by
        unfold recW
        rw [hw]
      have hone : ∀ s l, isOne zeroC b s 0 0 l = false := fun s l => decide_eq_false fun h => h.1 rfl
      have hP : ∀ bad : Int → Bool, saysW g (logM g a fill sizes 0 a.pos 0) ep bad pos' = if bad pos' then none else some zeroC := fun bad => by
        unfold saysW
        rw [if_pos ⟨p1, p2⟩, hr]
      have hx : ∀ s l, (recP g b (saysW g (logM g a fill sizes 0 a.pos 0) ep bad0) (saysW g (logM g a fill sizes 0 a.pos 0) ep bad1) pos' s l 0 0).2.1 = 2 := fun s l => by
        unfold recP lookP
        simp only [hslot, hP]
        have hbs2 := hb pos'
        cases h0 : bad0 pos' <;> cases h1 : bad1 pos'
        · simp [oneO, hone, lookT]
        · simp [oneO, hone, lookT]
        · simp [oneO, hone, lookT]
        · rw [h0, h1] at hbs2
          cases hbs2
      have ht : ∀ s l, (txnP g b (saysW g (logM g a fill sizes 0 a.pos 0) ep bad0) (saysW g (logM g a fill sizes 0 a.pos 0) ep bad1) pos' s l).1 = 2 := fun s l => by
        unfold txnP
        simp only [hx]
        rfl
      simp only [ht]
      rfl
    · rw [if_neg hc]
end Go.Proofs.YteecmgonbdbhdaaDoor.A
end

/-
The beginning of a log.
-/
section
namespace Go.Proofs.YteecmgonbdbhdaaDoor.A
open Go.RowKit

theorem logM_take {g : Geo} {a : An} {fill : UInt8} : ∀ (sizes : List Int) (i : Nat) (pos used : Int) (n : Nat), n ≤ (logM g a fill sizes i pos used).length → (logM g a fill sizes i pos used).take n = logM g a fill (sizes.take n) i pos used
  | [], i, pos, used, n, h => by
    have : n = 0 := by simpa [logM] using h
    subst this
    rfl
  | s :: r, i, pos, used, 0, h => by
    rw [List.take_zero, List.take_zero, logM]
  | s :: r, i, pos, used, n + 1, h => by
    rw [List.take_succ_cons]
    unfold logM at h ⊢
    split at h
    · simp at h
    · rename_i hc
      rw [if_neg hc, if_neg hc, List.take_succ_cons, logM_take r _ _ _ n (by simpa using h)]
end Go.Proofs.YteecmgonbdbhdaaDoor.A
end

/-
A written log gone through: what is found and what is to be written, whichever copies miss records.
-/
section
namespace Go.Proofs.YteecmgonbdbhdaaDoor.A
open Go.RowKit

/-- A copy says a record, or nothing that might be taken for it. -/
def SaysB (a : An) (x : Option Rc) (b : Bool) (r : Rc) (seq at_ : Int) : Prop := if b = true then x = some r else ∀ of_ left, oneO x a seq at_ of_ left = false
def wantsB (b0 b1 : Bool) : List Int := if b0 then (if b1 then [] else [1]) else [0]
theorem lookP_B {a : An} {p q : Int → Option Rc} {slot seq at_ of_ left : Int} {r : Rc} {b0 b1 : Bool} (hp : SaysB a (p slot) b0 r seq at_) (hq : SaysB a (q slot) b1 r seq at_) (h : (b0 || b1) = true) (h1 : isOne r a seq at_ of_ left = true) : lookP a p q slot seq at_ of_ left = (r, wantsB b0 b1, 1) := by
  unfold SaysB at hp hq
  unfold lookP
  cases b0 <;> cases b1
  · cases h
  · rw [if_neg (by decide)] at hp
    rw [if_pos rfl] at hq
    rw [hp, hq]; simp [oneO, h1, lookT, wantsB]
  · rw [if_pos rfl] at hp
    rw [if_neg (by decide)] at hq
    rw [hq, hp]; simp [oneO, h1, lookT, wantsB]
  · rw [if_pos rfl] at hp hq
    rw [hp, hq]; simp [oneO, h1, lookT, wantsB]
/-- What is to be written of a record, of a transaction. -/
def recWr (g : Geo) (ep : Int) (b0 b1 : Int → Bool) (t : Tx) (k : Nat) : List Wr := (wantsB (b0 (slotM g t.pos k)) (b1 (slotM g t.pos k))).map fun c => ⟨logAt g c (slotM g t.pos k), cellB g ((recsOf t.seq ep t.images).getD k rc0) c (slotM g t.pos k)⟩
def txWr (g : Geo) (ep : Int) (b0 b1 : Int → Bool) (t : Tx) : List Wr := (List.range (t.images.length + 1)).flatMap fun k => recWr g ep b0 b1 t k
theorem wsG_eq {look : Int → Rc × Int × List Wr} : ∀ (f : Nat) (k : Int) (w : List Wr), wsG look f k w = w ++ (List.range f).flatMap fun j => (look (k + (j : Nat))).2.2
  | 0, k, w => by simp [wsG]
  | f + 1, k, w => by
    rw [wsG, wsG_eq f (k + 1), List.range_succ_eq_map, List.flatMap_cons, List.flatMap_map, List.append_assoc]
    congr 1
    congr 1
    · rw [show k + ((0 : Nat) : Int) = k by omega]
    · congr 1
      funext j
      rw [show k + 1 + (j : Int) = k + ((j.succ : Nat) : Int) by omega]
def AllB (g : Geo) (a : An) (ep : Int) (p q : Int → Option Rc) (b0 b1 : Int → Bool) (t : Tx) (n : Nat) : Prop :=
  (ep = a.epoch ∨ t.seq ≤ a.last ∧ ep ≤ a.epoch) ∧ ∀ k : Nat, k < n → SaysB a (p (slotM g t.pos k)) (b0 (slotM g t.pos k)) ((recsOf t.seq ep t.images).getD k rc0) t.seq k ∧ SaysB a (q (slotM g t.pos k)) (b1 (slotM g t.pos k)) ((recsOf t.seq ep t.images).getD k rc0) t.seq k ∧ (b0 (slotM g t.pos k) || b1 (slotM g t.pos k)) = true
theorem recs_facts (seq ep : Int) (imgs : List Img) (k : Nat) (hk : k < imgs.length + 1) : ((recsOf seq ep imgs).getD k rc0).kind ≠ 0 ∧ ((recsOf seq ep imgs).getD k rc0).seq = seq ∧ ((recsOf seq ep imgs).getD k rc0).epoch = ep ∧ ((recsOf seq ep imgs).getD k rc0).at_ = (k : Nat) ∧ ((recsOf seq ep imgs).getD k rc0).of_ = imgs.length + 1 ∧ (((recsOf seq ep imgs).getD k rc0).kind = 1 ↔ k < imgs.length) ∧ (k < imgs.length → ((recsOf seq ep imgs).getD k rc0).img = imgs.getD k ⟨0, 0, []⟩) := by
  rw [recs_getD seq ep imgs hk]
  split
  · exact ⟨by simp, rfl, rfl, rfl, rfl, by simp [*], fun _ => rfl⟩
  · exact ⟨by simp, rfl, rfl, rfl, rfl, by simp [*], fun h => by omega⟩
theorem recP_B {g : Geo} {a : An} {p q : Int → Option Rc} {b0 b1 : Int → Bool} {left ep : Int} {t : Tx} {n : Nat} (hS : AllB g a ep p q b0 b1 t n) (hn : n ≤ t.images.length + 1) (hleft : (t.images.length : Int) + 1 ≤ left) (k : Nat) (of_ : Int) (hk : k < n) (ho : of_ = 0 ∨ of_ = t.images.length + 1) : recP g a p q t.pos t.seq left k of_ = ((recsOf t.seq ep t.images).getD k rc0, 1, recWr g ep b0 b1 t k) := by
  obtain ⟨s1, s2, s3⟩ := hS.2 k hk
  obtain ⟨r1, r2, r3, r4, r5, -⟩ := recs_facts t.seq ep t.images k (by omega)
  have := lookP_B (of_ := of_) (left := left) s1 s2 s3 (decide_eq_true ⟨r1, r2, r4, fun _ => by omega, fun _ => by omega, by rw [r3]; exact hS.1⟩)
  unfold recP
  dsimp only
  rw [this]
  rfl
theorem flatMap_ext {α β : Type} {f g : α → List β} : ∀ {l : List α}, (∀ x ∈ l, f x = g x) → l.flatMap f = l.flatMap g
  | [], _ => rfl
  | x :: l, h => by rw [List.flatMap_cons, List.flatMap_cons, h x (by simp), flatMap_ext fun y hy => h y (List.mem_cons_of_mem _ hy)]
/-- A transaction whose every record some copy says is found. -/
theorem txnP_B {g : Geo} {a : An} {p q : Int → Option Rc} {b0 b1 : Int → Bool} {left ep : Int} {t : Tx} (hS : AllB g a ep p q b0 b1 t (t.images.length + 1)) (hleft : (t.images.length : Int) + 1 ≤ left) :
    txnP g a p q t.pos t.seq left = (1, (t.images.length : Int) + 1, t.images, txWr g ep b0 b1 t) := by
  have hr := recs_facts t.seq ep t.images
  have hrec := fun k of_ hk ho => recP_B (left := left) hS (Nat.le_refl _) hleft k of_ hk ho
  have a1 := hrec 0 0 (by omega) (.inl rfl)
  have a3 := (hr 0 (by omega)).2.2.2.2.1
  have gf := gather_found (look := fun k => recP g a p q t.pos t.seq left k (t.images.length + 1)) (R := fun k => (recsOf t.seq ep t.images).getD k rc0) (imgs := t.images) (fun j hj => ⟨(hr j (by omega)).2.2.2.2.2.1.2 hj, (hr j (by omega)).2.2.2.2.2.2 hj⟩) (fun e => by have := (hr t.images.length (by omega)).2.2.2.2.2.1.1 e; omega) (fun j h1 h2 => by rw [hrec j _ (by omega) (.inr rfl)]; exact ⟨rfl, rfl⟩) t.images.length 0 (recWr g ep b0 b1 t 0) (by omega)
  unfold txnP
  simp only
  have a1' : recP g a p q t.pos t.seq left 0 0 = ((recsOf t.seq ep t.images).getD 0 rc0, 1, recWr g ep b0 b1 t 0) := a1
  rw [a1']
  dsimp only
  rw [if_neg (fun h => h rfl), a3]
  have ef : ((t.images.length : Int) + 1 - 1).toNat = t.images.length := by omega
  rw [ef]
  have gf' : gatherM (fun k => recP g a p q t.pos t.seq left k (t.images.length + 1)) t.images.length 1 ((recsOf t.seq ep t.images).getD 0 rc0) [] (recWr g ep b0 b1 t 0) = (1, t.images, wsG (fun k => recP g a p q t.pos t.seq left k (t.images.length + 1)) t.images.length 1 (recWr g ep b0 b1 t 0)) := gf
  rw [gf', if_neg (show ¬ (1 : Int) ≠ 1 by decide), wsG_eq]
  unfold txWr
  rw [List.range_succ_eq_map, List.flatMap_cons, List.flatMap_map]
  have ew : ((List.range t.images.length).flatMap fun j => (recP g a p q t.pos t.seq left (1 + (j : Nat)) (t.images.length + 1)).2.2) = (List.range t.images.length).flatMap fun j => recWr g ep b0 b1 t j.succ := by
    refine flatMap_ext fun j hj => ?_
    have hj := List.mem_range.1 hj
    have := hrec (j + 1) _ (by omega) (.inr rfl)
    rw [show 1 + ((j : Nat) : Int) = (((j + 1 : Nat)) : Int) by omega, this]
  rw [ew]
theorem gather_fail {look : Int → Rc × Int × List Wr} {h : Int} {k0 : Nat} (hl : ∀ j : Nat, 1 ≤ j → j < k0 → (look (j : Nat)).2.1 = 1) (hk : (look (k0 : Nat)).2.1 = h) (hh : h ≠ 1) :
    ∀ (f j : Nat) (r : Rc) (im : List Img) (w : List Wr), j < k0 → k0 ≤ j + f → (gatherM look f ((j : Nat) + 1) r im w).1 = h
  | 0, j, r, im, w, h1, h2 => by omega
  | f + 1, j, r, im, w, h1, h2 => by
    have ej : (((j + 1 : Nat)) : Int) = (j : Int) + 1 := by omega
    unfold gatherM
    simp only
    by_cases e : k0 = j + 1
    · subst e
      rw [ej] at hk
      rw [if_pos (by rw [hk]; exact hh)]
      exact hk
    · have := hl (j + 1) (by omega) (by omega)
      rw [ej] at this
      rw [if_neg (by rw [this]; decide)]
      have ih := gather_fail hl hk hh f (j + 1) (look ((j : Int) + 1)).1 (if r.kind = 1 then im ++ [r.img] else im) (w ++ (look ((j : Int) + 1)).2.2) (by omega) (by omega)
      rw [ej] at ih
      exact ih
/-- A transaction of which a record is in no copy is not found. -/
theorem txnP_fail {g : Geo} {a : An} {p q : Int → Option Rc} {b0 b1 : Int → Bool} {left ep h : Int} {t : Tx} {k0 : Nat} (hS : AllB g a ep p q b0 b1 t k0) (hk0 : k0 ≤ t.images.length) (hleft : (t.images.length : Int) + 1 ≤ left) (hh : h ≠ 1) (hk : ∀ of_, (recP g a p q t.pos t.seq left k0 of_).2.1 = h) :
    (txnP g a p q t.pos t.seq left).1 = h := by
  have hrec := fun k of_ hk ho => recP_B (left := left) hS (by omega) hleft k of_ hk ho
  unfold txnP
  simp only
  by_cases e : k0 = 0
  · subst e
    have hk := hk 0
    have hk : (recP g a p q t.pos t.seq left 0 0).2.1 = h := hk
    rw [if_pos (by rw [hk]; exact hh)]
    exact hk
  · have a1 := hrec 0 0 (by omega) (.inl rfl)
    have a1' : recP g a p q t.pos t.seq left 0 0 = ((recsOf t.seq ep t.images).getD 0 rc0, 1, recWr g ep b0 b1 t 0) := a1
    have a3 := (recs_facts t.seq ep t.images 0 (by omega)).2.2.2.2.1
    rw [a1']
    dsimp only
    rw [if_neg (fun h => h rfl), a3]
    have ef : ((t.images.length : Int) + 1 - 1).toNat = t.images.length := by omega
    rw [ef]
    have gf := gather_fail (look := fun k => recP g a p q t.pos t.seq left k (t.images.length + 1)) (h := h) (k0 := k0) (fun j h1 h2 => by rw [hrec j _ h2 (.inr rfl)]) (hk _) hh t.images.length 0 ((recsOf t.seq ep t.images).getD 0 rc0) [] (recWr g ep b0 b1 t 0) (by omega) (by omega)
    have gf' : (gatherM (fun k => recP g a p q t.pos t.seq left k (t.images.length + 1)) t.images.length 1 ((recsOf t.seq ep t.images).getD 0 rc0) [] (recWr g ep b0 b1 t 0)).1 = h := gf
    rw [if_pos (by rw [gf']; exact hh)]
    exact gf'
theorem scanLP_B {g : Geo} {a b : An} {fill : UInt8} {p q : Int → Option Rc} {b0 b1 : Int → Bool} {ep : Int} (hg : okG g = true) (hsq : a.seq ≤ 1000000) : ∀ (sizes : List Int) (i : Nat) (pos used : Int) (l0 : List Tx) (w : List Wr) (f : Nat), 0 ≤ used ∧ used ≤ g.sl → (0 ≤ pos ∧ pos < g.sl) → i ≤ 100 → sizes.length + i ≤ 100 → g.sl - used ≤ (f : Nat) → (∀ t ∈ logM g a fill sizes i pos used, AllB g b ep p q b0 b1 t (t.images.length + 1)) →
    ∃ (f' : Nat), g.sl - (used + usedM (logM g a fill sizes i pos used)) ≤ (f' : Nat) ∧ used + usedM (logM g a fill sizes i pos used) ≤ g.sl ∧
      scanLP g b p q f pos (a.seq + i) (g.sl - used) l0 w = scanLP g b p q f' (posM g (logM g a fill sizes i pos used) pos) (a.seq + i + (logM g a fill sizes i pos used).length) (g.sl - (used + usedM (logM g a fill sizes i pos used))) (l0 ++ logM g a fill sizes i pos used) (w ++ (logM g a fill sizes i pos used).flatMap (txWr g ep b0 b1))
  | [], i, pos, used, l0, w, f, hu, hp, hi, hl, hf, hs => ⟨f, by simp [logM, usedM]; omega, by simp [logM, usedM]; omega, by simp [logM, usedM, posM]⟩
  | s :: r, i, pos, used, l0, w, f, hu, hp, hi, hl, hf, hs => by
    obtain ⟨h1, h2, h3, h4, h5⟩ := okG_iff.1 hg
    have hn := nImg_in s
    simp only [List.length_cons] at hl
    unfold logM at hs ⊢
    by_cases hc : g.sl < used + (nImg s : Nat) + 1
    · rw [if_pos hc] at hs ⊢
      exact ⟨f, by simp [usedM]; omega, by simp [usedM]; omega, by simp [usedM, posM]⟩
    · rw [if_neg hc] at hs ⊢
      have t1 := hs (logTx g a fill i pos (nImg s)) (by simp)
      have il : (logTx g a fill i pos (nImg s)).images.length = nImg s := by simp [logTx]
      have tf := txnP_B (left := g.sl - used) t1 (by omega)
      rw [il, show (logTx g a fill i pos (nImg s)).pos = pos from rfl, show (logTx g a fill i pos (nImg s)).seq = a.seq + i from rfl] at tf
      have hm := Int.tmod_lt_of_pos (pos + (nImg s : Nat) + 1) (show 0 < g.sl by omega)
      have hm0 := Int.tmod_nonneg g.sl (show 0 ≤ pos + (nImg s : Nat) + 1 by omega)
      cases f with
      | zero => exfalso; omega
      | succ f =>
        obtain ⟨f', e1, e3, e4⟩ := scanLP_B (b := b) (fill := fill) hg hsq r (i + 1) ((pos + (nImg s : Nat) + 1).tmod g.sl) (used + (nImg s : Nat) + 1) (l0 ++ [logTx g a fill i pos (nImg s)]) (w ++ txWr g ep b0 b1 (logTx g a fill i pos (nImg s))) f (by omega) ⟨hm0, hm⟩ (by omega) (by omega) (by omega) (fun t ht => hs t (List.mem_cons_of_mem _ ht))
        refine ⟨f', ?_, ?_, ?_⟩
        · simp only [usedM, logTx] at e1 ⊢
          omega
        · simp only [usedM, logTx] at e3 ⊢
          omega
        · have ea : a.seq + (((i + 1 : Nat)) : Int) = a.seq + (i : Int) + 1 := by omega
          rw [ea] at e4
          have hstep : scanLP g b p q (f + 1) pos (a.seq + i) (g.sl - used) l0 w = scanLP g b p q f ((pos + (nImg s : Nat) + 1).tmod g.sl) (a.seq + i + 1) (g.sl - (used + (nImg s : Nat) + 1)) (l0 ++ [logTx g a fill i pos (nImg s)]) (w ++ txWr g ep b0 b1 (logTx g a fill i pos (nImg s))) := by
            conv => lhs; unfold scanLP
            rw [if_pos (by omega)]
            simp only [tf]
            rw [if_neg (by decide), if_neg (by decide)]
            rw [show pos + (((nImg s : Nat) : Int) + 1) = pos + (nImg s : Nat) + 1 by omega, show g.sl - used - (((nImg s : Nat) : Int) + 1) = g.sl - (used + (nImg s : Nat) + 1) by omega]
            rfl
          rw [hstep, e4]
          simp only [usedM, posM, logTx, List.length_cons, List.flatMap_cons, List.append_assoc, List.cons_append, List.nil_append, Int.add_assoc]
          congr 1 <;> omega
theorem used_nn {l : List Tx} (h : ∀ t ∈ l, 0 ≤ t.n) : 0 ≤ usedM l := by
  induction l with
  | nil => simp [usedM]
  | cons x y ih => have := ih (fun t ht => h t (List.mem_cons_of_mem _ ht)); have := h x (by simp); simp only [usedM]; omega
theorem logM_nn {g : Geo} {a : An} {fill : UInt8} {sizes : List Int} (hg : okG g = true) (ha : anOk g a = true) : ∀ t ∈ logM g a fill sizes 0 a.pos 0, 0 ≤ t.n := fun t ht => by
  have hq := anOk_seq ha
  obtain ⟨j, hj, rfl⟩ := List.mem_iff_getElem.1 ht
  obtain ⟨pos, n, e, -⟩ := (logM_in (a := a) (fill := fill) hg sizes 0 a.pos 0 hq.2).at_ j hj
  rw [List.getD_eq_getElem?_getD, List.getElem?_eq_getElem hj] at e
  simp only [Option.getD_some] at e
  rw [e]
  simp only [logTx]
  omega
/-- A log that begins with a written one: the rest of the scan. -/
theorem scan_B {g : Geo} {a b : An} {fill : UInt8} {sizes : List Int} {ep : Int} {p q : Int → Option Rc} {b0 b1 : Int → Bool} (hg : okG g = true) (ha : anOk g a = true) (hsq : a.seq ≤ 1000000) (hl : sizes.length ≤ 40) (hbs : b.seq = a.seq) (hbp : b.pos = a.pos) (hS : ∀ t ∈ logM g a fill sizes 0 a.pos 0, AllB g b ep p q b0 b1 t (t.images.length + 1)) :
    ∃ f : Nat, g.sl - usedM (logM g a fill sizes 0 a.pos 0) ≤ (f : Nat) ∧ usedM (logM g a fill sizes 0 a.pos 0) ≤ g.sl ∧
      scanP g b p q = finM b (scanLP g b p q f ((a.pos + usedM (logM g a fill sizes 0 a.pos 0)).tmod g.sl) (a.seq + (logM g a fill sizes 0 a.pos 0).length) (g.sl - usedM (logM g a fill sizes 0 a.pos 0)) (logM g a fill sizes 0 a.pos 0) ((logM g a fill sizes 0 a.pos 0).flatMap (txWr g ep b0 b1))) := by
  obtain ⟨h1, h2, h3, h4, h5⟩ := okG_iff.1 hg
  have hq := anOk_seq ha
  obtain ⟨f, e1, e2, e3⟩ := scanLP_B (b := b) (fill := fill) hg hsq sizes 0 a.pos 0 [] [] g.sl.toNat ⟨Int.le_refl 0, by omega⟩ hq.2 (by omega) (by omega) (by omega) hS
  have hpos := posM_used hg (logM g a fill sizes 0 a.pos 0) a.pos hq.2.1 (logM_nn hg ha)
  rw [tmod_lo hq.2.1 hq.2.2] at hpos
  rw [hpos] at e3
  refine ⟨f, by omega, by omega, ?_⟩
  unfold scanP
  rw [hbp, hbs]
  simp only [Int.sub_zero, List.nil_append, Int.zero_add, Int.natCast_zero, Int.add_zero] at e3
  rw [e3]
theorem scanLP_end {g : Geo} {b : An} {p q : Int → Option Rc} {f : Nat} {pos seq left : Int} {l : List Tx} {w : List Wr} (h : 0 < left → (txnP g b p q pos seq left).1 = 2) : scanLP g b p q f pos seq left l w = some (l, w, seq) := by
  cases f with
  | zero => rfl
  | succ f =>
    unfold scanLP
    by_cases hc : 0 < left ∧ seq ≤ 4294967295
    · rw [if_pos hc]
      simp only [h hc.1]
      rfl
    · rw [if_neg hc]
theorem scanLP_hole {g : Geo} {b : An} {p q : Int → Option Rc} {f : Nat} {pos seq left : Int} {l : List Tx} {w : List Wr} (hl : 0 < left) (hf : left ≤ (f : Nat)) (hs : seq ≤ 4294967295) (h : (txnP g b p q pos seq left).1 = 3) : scanLP g b p q f pos seq left l w = none := by
  cases f with
  | zero => exfalso; omega
  | succ f =>
    unfold scanLP
    rw [if_pos ⟨hl, hs⟩]
    simp only [h]
    rfl
/-- A slot of which both copies together say something, but neither the one. -/
theorem txn_other {g : Geo} {b : An} {p q : Int → Option Rc} {pos seq left : Int} (h0 : ∀ of_ left, oneO (p (slotM g pos 0)) b seq 0 of_ left = false) (h1 : ∀ of_ left, oneO (q (slotM g pos 0)) b seq 0 of_ left = false) (h : ((p (slotM g pos 0)).isSome || (q (slotM g pos 0)).isSome) = true) : (txnP g b p q pos seq left).1 = 2 := by
  have : (recP g b p q pos seq left 0 0).2.1 = 2 := by
    unfold recP lookP
    simp only [h0, h1]
    simp [lookT, h]
  unfold txnP
  simp only [this]
  rfl
end Go.Proofs.YteecmgonbdbhdaaDoor.A
end

/-
Where a written log's records lie; what lies behind it.
-/
section
namespace Go.Proofs.YteecmgonbdbhdaaDoor.A
open Go.RowKit

theorem logM_used {g : Geo} {a : An} {fill : UInt8} : ∀ (sizes : List Int) (i : Nat) (pos used : Int), used ≤ g.sl → used + usedM (logM g a fill sizes i pos used) ≤ g.sl
  | [], _, _, _, h => by simp [logM, usedM]; omega
  | s :: r, i, pos, used, h => by
    unfold logM
    split
    · simp [usedM]; omega
    · have := logM_used (g := g) (a := a) (fill := fill) r (i + 1) ((pos + (nImg s : Nat) + 1).tmod g.sl) (used + (nImg s : Nat) + 1) (by omega)
      simp only [usedM, logTx] at this ⊢
      omega
theorem logM_pos {g : Geo} {a : An} {fill : UInt8} : ∀ (sizes : List Int) (i : Nat) (pos used : Int) (j : Nat), j < (logM g a fill sizes i pos used).length → ((logM g a fill sizes i pos used).getD j tz).pos = posM g ((logM g a fill sizes i pos used).take j) pos
  | [], _, _, _, j, h => by simp [logM] at h
  | s :: r, i, pos, used, j, h => by
    unfold logM at h ⊢
    split at h
    · simp at h
    · rename_i hc
      rw [if_neg hc]
      cases j with
      | zero => rfl
      | succ j =>
        have ih := logM_pos r (i + 1) ((pos + (nImg s : Nat) + 1).tmod g.sl) (used + (nImg s : Nat) + 1) j (by simpa using h)
        rw [List.take_succ_cons, posM, List.getD_cons_succ, ih]
        simp only [logTx]
        rw [Int.add_assoc]
theorem used_take : ∀ (l : List Tx) (j : Nat), j < l.length → usedM (l.take (j + 1)) = usedM (l.take j) + (l.getD j tz).n
  | [], j, h => by simp at h
  | t :: r, 0, _ => by simp [usedM]
  | t :: r, j + 1, h => by
    have := used_take r j (by simpa using h)
    simp only [List.take_succ_cons, usedM, List.getD_cons_succ] at this ⊢
    omega
section
variable {g : Geo} {a : An} {fill : UInt8} {sizes : List Int}
theorem log_take (n : Nat) : (logM g a fill sizes 0 a.pos 0).take n = logM g a fill (sizes.take n) 0 a.pos 0 ∨ (logM g a fill sizes 0 a.pos 0).length < n := by
  by_cases h : n ≤ (logM g a fill sizes 0 a.pos 0).length
  · exact .inl (logM_take sizes 0 a.pos 0 n h)
  · exact .inr (by omega)
theorem log_get (hg : okG g = true) (ha : anOk g a = true) {j : Nat} (hj : j < (logM g a fill sizes 0 a.pos 0).length) : ((logM g a fill sizes 0 a.pos 0).getD j tz).seq = a.seq + j ∧ ((logM g a fill sizes 0 a.pos 0).getD j tz).n = ((logM g a fill sizes 0 a.pos 0).getD j tz).images.length + 1 ∧ 1 ≤ ((logM g a fill sizes 0 a.pos 0).getD j tz).images.length ∧ ((logM g a fill sizes 0 a.pos 0).getD j tz).images.length ≤ 5 := by
  obtain ⟨pos, n, e, n1, n2, -⟩ := (logM_in (a := a) (fill := fill) hg sizes 0 a.pos 0 (anOk_seq ha).2).at_ j hj
  rw [e]
  simp [logTx]
  omega
theorem log_mem {t : Tx} (hj : t ∈ logM g a fill sizes 0 a.pos 0) : ∃ j, j < (logM g a fill sizes 0 a.pos 0).length ∧ t = (logM g a fill sizes 0 a.pos 0).getD j tz := by
  obtain ⟨j, h, rfl⟩ := List.mem_iff_getElem.1 hj
  exact ⟨j, h, by rw [List.getD_eq_getElem?_getD, List.getElem?_eq_getElem h]; rfl⟩
theorem log_used (hg : okG g = true) : usedM (logM g a fill sizes 0 a.pos 0) ≤ g.sl := by
  obtain ⟨h1, h2, h3, h4, h5⟩ := okG_iff.1 hg
  have := logM_used (g := g) (a := a) (fill := fill) sizes 0 a.pos 0 (by omega)
  omega
theorem log_room (hg : okG g = true) {j : Nat} (hj : j < (logM g a fill sizes 0 a.pos 0).length) : usedM ((logM g a fill sizes 0 a.pos 0).take j) + ((logM g a fill sizes 0 a.pos 0).getD j tz).n ≤ g.sl := by
  rw [← used_take _ j hj]
  rw [logM_take sizes 0 a.pos 0 (j + 1) hj]
  exact log_used hg
theorem log_take_nn (hg : okG g = true) (ha : anOk g a = true) (j : Nat) : 0 ≤ usedM ((logM g a fill sizes 0 a.pos 0).take j) := used_nn fun t ht => logM_nn hg ha t (List.mem_of_mem_take ht)
/-- A record's slot. -/
theorem log_slot (hg : okG g = true) (ha : anOk g a = true) {j k : Nat} (hj : j < (logM g a fill sizes 0 a.pos 0).length) (hk : k < ((logM g a fill sizes 0 a.pos 0).getD j tz).images.length + 1) : slotM g ((logM g a fill sizes 0 a.pos 0).getD j tz).pos k = (a.pos + (usedM ((logM g a fill sizes 0 a.pos 0).take j) + k)).tmod g.sl := by
  obtain ⟨h1, h2, h3, h4, h5⟩ := okG_iff.1 hg
  have hq := anOk_seq ha
  have hu := log_take_nn (fill := fill) (sizes := sizes) hg ha j
  have hp := posM_used hg ((logM g a fill sizes 0 a.pos 0).take j) a.pos hq.2.1 fun t ht => logM_nn hg ha t (List.mem_of_mem_take ht)
  rw [tmod_lo hq.2.1 hq.2.2, ← logM_pos sizes 0 a.pos 0 j hj] at hp
  have hgt := log_get (fill := fill) (sizes := sizes) hg ha hj
  rw [hp]
  unfold slotM
  have q1 := Int.tmod_nonneg g.sl (show 0 ≤ a.pos + usedM ((logM g a fill sizes 0 a.pos 0).take j) by omega)
  have q2 := Int.tmod_lt_of_pos (a.pos + usedM ((logM g a fill sizes 0 a.pos 0).take j)) (show 0 < g.sl by omega)
  rw [show IntKind.i64.wrap ((a.pos + usedM ((logM g a fill sizes 0 a.pos 0).take j)).tmod g.sl + (k : Int)) = (a.pos + usedM ((logM g a fill sizes 0 a.pos 0).take j)).tmod g.sl + k by rw [IntKind.wrap_i64]; omega]
  rw [Int.tmod_eq_emod_of_nonneg (show 0 ≤ a.pos + usedM ((logM g a fill sizes 0 a.pos 0).take j) by omega)] at q1 ⊢
  rw [Int.tmod_eq_emod_of_nonneg (by omega), Int.tmod_eq_emod_of_nonneg (by omega), Int.emod_add_emod, Int.add_assoc]
/-- Behind a log nobody has a slot. -/
theorem recW_free {ep u : Int} (hg : okG g = true) (ha : anOk g a = true) (hu : usedM (logM g a fill sizes 0 a.pos 0) ≤ u) (hs : u < g.sl) : recW g (logM g a fill sizes 0 a.pos 0) ep ((a.pos + u).tmod g.sl) = zeroC := by
  obtain ⟨h1, h2, h3, h4, h5⟩ := okG_iff.1 hg
  have hq := anOk_seq ha
  have h0 := used_nn (logM_nn (fill := fill) (sizes := sizes) hg ha)
  have hw := who_log (a := a) (fill := fill) hg (p0 := a.pos) hq.2 (u := u) (by omega) sizes 0 0 0 ⟨Int.le_refl 0, by omega⟩
  rw [show (a.pos + 0).tmod g.sl = a.pos by rw [Int.add_zero]; exact tmod_lo hq.2.1 hq.2.2] at hw
  rw [findU_none _ 0 0 _ (logM_nn hg ha) (by omega)] at hw
  unfold recW
  rw [hw]
theorem slotM_0 (hg : okG g = true) {x : Int} (hx : 0 ≤ x) : slotM g (x.tmod g.sl) 0 = x.tmod g.sl := by
  obtain ⟨h1, h2, h3, h4, h5⟩ := okG_iff.1 hg
  have q1 := Int.tmod_nonneg g.sl hx
  have q2 := Int.tmod_lt_of_pos x (show 0 < g.sl by omega)
  unfold slotM
  rw [Int.add_zero, show IntKind.i64.wrap (x.tmod g.sl) = x.tmod g.sl by rw [IntKind.wrap_i64]; omega]
  exact tmod_lo q1 q2
theorem one_zero (b : An) (s at_ of_ left : Int) : oneO (some zeroC) b s at_ of_ left = false := by
  show isOne zeroC b s at_ of_ left = false
  exact decide_eq_false fun h => h.1 rfl
theorem one_none (b : An) (s at_ of_ left : Int) : oneO none b s at_ of_ left = false := rfl
theorem saysW_at {L : List Tx} {ep s : Int} {bad : Int → Bool} (hs : 0 ≤ s ∧ s < g.sl) : saysW g L ep bad s = if bad s then none else some (recW g L ep s) := by
  unfold saysW
  rw [if_pos hs]
/-- A copy of a written log, some readings spoilt, at a record. -/
theorem saysB_W {b : An} {ep : Int} {bad : Int → Bool} (hg : okG g = true) (ha : anOk g a = true) {j k : Nat} (hj : j < (logM g a fill sizes 0 a.pos 0).length) (hk : k < ((logM g a fill sizes 0 a.pos 0).getD j tz).images.length + 1) :
    SaysB b (saysW g (logM g a fill sizes 0 a.pos 0) ep bad (slotM g ((logM g a fill sizes 0 a.pos 0).getD j tz).pos k)) (!bad (slotM g ((logM g a fill sizes 0 a.pos 0).getD j tz).pos k)) ((recsOf ((logM g a fill sizes 0 a.pos 0).getD j tz).seq ep ((logM g a fill sizes 0 a.pos 0).getD j tz).images).getD k rc0) ((logM g a fill sizes 0 a.pos 0).getD j tz).seq k := by
  obtain ⟨q1, q2⟩ := recW_at (fill := fill) (sizes := sizes) (ep := ep) hg ha hj hk
  rw [saysW_at q1, q2]
  unfold SaysB
  cases bad (slotM g ((logM g a fill sizes 0 a.pos 0).getD j tz).pos k)
  · rfl
  · exact fun _ _ => rfl
theorem allB_W {b : An} {ep : Int} {bad0 bad1 : Int → Bool} (hg : okG g = true) (ha : anOk g a = true) {j n : Nat} (hj : j < (logM g a fill sizes 0 a.pos 0).length) (hn : n ≤ ((logM g a fill sizes 0 a.pos 0).getD j tz).images.length + 1) (he : ep = b.epoch ∨ a.seq + j ≤ b.last ∧ ep ≤ b.epoch) (hb : ∀ k, k < n → (bad0 (slotM g ((logM g a fill sizes 0 a.pos 0).getD j tz).pos (k : Nat)) && bad1 (slotM g ((logM g a fill sizes 0 a.pos 0).getD j tz).pos (k : Nat))) = false) :
    AllB g b ep (saysW g (logM g a fill sizes 0 a.pos 0) ep bad0) (saysW g (logM g a fill sizes 0 a.pos 0) ep bad1) (fun s => !bad0 s) (fun s => !bad1 s) ((logM g a fill sizes 0 a.pos 0).getD j tz) n := by
  refine ⟨?_, fun k hk => ⟨saysB_W hg ha hj (by omega), saysB_W hg ha hj (by omega), ?_⟩⟩
  · rw [(log_get hg ha hj).1]
    exact he
  · have := hb k hk
    cases h0 : bad0 (slotM g ((logM g a fill sizes 0 a.pos 0).getD j tz).pos k) <;> cases h1 : bad1 (slotM g ((logM g a fill sizes 0 a.pos 0).getD j tz).pos k) <;> simp_all
end
end Go.Proofs.YteecmgonbdbhdaaDoor.A
end

/-
Records of an elder epoch beyond the last number: what a scan finds, in plain terms.
-/
section
namespace Go.Proofs.YteecmgonbdbhdaaDoor.A
open Go.RowKit

theorem mem_take_ {l : List Tx} {n : Nat} {t : Tx} (h : t ∈ l.take n) : ∃ j, j < n ∧ j < l.length ∧ t = l.getD j tz := by
  obtain ⟨j, hj, rfl⟩ := List.mem_iff_getElem.1 h
  rw [List.length_take] at hj
  refine ⟨j, by omega, by omega, ?_⟩
  rw [List.getElem_take, List.getD_eq_getElem?_getD, List.getElem?_eq_getElem (by omega)]
  rfl
theorem txWr_none (g : Geo) (ep : Int) (l : List Tx) {b0 b1 : Int → Bool} (h0 : ∀ s, b0 s = true) (h1 : ∀ s, b1 s = true) : l.flatMap (txWr g ep b0 b1) = [] := by
  rw [List.flatMap_eq_nil_iff]
  intro t _
  unfold txWr
  rw [List.flatMap_eq_nil_iff]
  intro k _
  simp [recWr, h0, h1, wantsB]
def lastA (a : An) (n : Int) : An := { a with last := n }
section
variable {g : Geo} {a : An} {fill : UInt8} {sizes : List Int}
theorem elder_scan {n : Nat} (hg : okG g = true) (ha : anOk g a = true) (hs : a.seq ≤ 1000000) (hl : sizes.length ≤ 40) (hn : n ≤ (logM g a fill sizes 0 a.pos 0).length) :
    scanP g (lastA a (a.seq + n - 1)) (saysW g (logM g a fill sizes 0 a.pos 0) (a.epoch - 1) fun _ => false) (saysW g (logM g a fill sizes 0 a.pos 0) (a.epoch - 1) fun _ => false) = ((logM g a fill sizes 0 a.pos 0).take n, [], 0) := by
  obtain ⟨h1, h2, h3, h4, h5⟩ := okG_iff.1 hg
  have hq := anOk_seq ha
  have eT := logM_take (g := g) (a := a) (fill := fill) sizes 0 a.pos 0 n hn
  have hU0 := log_take_nn (fill := fill) (sizes := sizes) hg ha n
  obtain ⟨f, e1, e2, e3⟩ := scan_B (g := g) (a := a) (b := lastA a (a.seq + n - 1)) (fill := fill) (sizes := sizes.take n) (ep := a.epoch - 1) (p := saysW g (logM g a fill sizes 0 a.pos 0) (a.epoch - 1) fun _ => false) (q := saysW g (logM g a fill sizes 0 a.pos 0) (a.epoch - 1) fun _ => false) (b0 := fun _ => !false) (b1 := fun _ => !false) hg ha hs (by rw [List.length_take]; omega) rfl rfl (fun t ht => by
    rw [← eT] at ht
    obtain ⟨j, j1, j2, rfl⟩ := mem_take_ ht
    exact allB_W (b := lastA a (a.seq + n - 1)) hg ha j2 (Nat.le_refl _) (.inr ⟨by show a.seq + (j : Int) ≤ a.seq + n - 1; omega, by show a.epoch - 1 ≤ a.epoch; omega⟩) fun k _ => rfl)
  rw [← eT] at e1 e2 e3
  have hln : ((logM g a fill sizes 0 a.pos 0).take n).length = n := by rw [List.length_take]; omega
  rw [hln] at e3
  rw [e3, txWr_none _ _ _ (b0 := fun _ => !false) (b1 := fun _ => !false) (fun _ => rfl) (fun _ => rfl), scanLP_end]
  · rw [finM_neg]
    show ¬ a.seq + (n : Int) - 1 < a.seq + n - 1
    omega
  · intro hleft
    have hP := slotM_0 (x := a.pos + usedM ((logM g a fill sizes 0 a.pos 0).take n)) hg (by omega)
    have q1 := Int.tmod_nonneg g.sl (show 0 ≤ a.pos + usedM ((logM g a fill sizes 0 a.pos 0).take n) by omega)
    have q2 := Int.tmod_lt_of_pos (a.pos + usedM ((logM g a fill sizes 0 a.pos 0).take n)) (show 0 < g.sl by omega)
    have hone : ∀ of_ left, oneO (some (recW g (logM g a fill sizes 0 a.pos 0) (a.epoch - 1) ((a.pos + usedM ((logM g a fill sizes 0 a.pos 0).take n)).tmod g.sl))) (lastA a (a.seq + n - 1)) (a.seq + n) 0 of_ left = false := by
      intro of_ left
      by_cases hc : n < (logM g a fill sizes 0 a.pos 0).length
      · have r1 := log_slot (k := 0) hg ha hc (by omega)
        obtain ⟨-, r2⟩ := recW_at (k := 0) (ep := a.epoch - 1) hg ha hc (by omega)
        rw [r1, show usedM ((logM g a fill sizes 0 a.pos 0).take n) + ((0 : Nat) : Int) = usedM ((logM g a fill sizes 0 a.pos 0).take n) by omega] at r2
        rw [r2]
        obtain ⟨f1, f2, f3, -⟩ := recs_facts ((logM g a fill sizes 0 a.pos 0).getD n tz).seq (a.epoch - 1) ((logM g a fill sizes 0 a.pos 0).getD n tz).images 0 (by omega)
        show isOne _ _ _ _ _ _ = false
        refine decide_eq_false fun hh => ?_
        have h6 := hh.2.2.2.2.2
        rw [f3] at h6
        have h7 : a.epoch - 1 = a.epoch ∨ a.seq + (n : Int) ≤ a.seq + n - 1 ∧ a.epoch - 1 ≤ a.epoch := h6
        omega
      · have eL : (logM g a fill sizes 0 a.pos 0).take n = logM g a fill sizes 0 a.pos 0 := List.take_of_length_le (by omega)
        rw [eL] at hleft ⊢
        rw [recW_free hg ha (Int.le_refl _) (by omega)]
        exact one_zero _ _ _ _ _
    refine txn_other ?_ ?_ ?_
    all_goals
      rw [hP, saysW_at ⟨q1, q2⟩, if_neg (by decide)]
    · exact hone
    · exact hone
    · rfl
end
end Go.Proofs.YteecmgonbdbhdaaDoor.A
end
