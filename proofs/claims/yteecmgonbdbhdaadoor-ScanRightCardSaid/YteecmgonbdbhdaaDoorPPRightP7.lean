/-
Several texts in one.
-/
import Derived.Test.YteecmgonbdbhdaaDoorPPRightP6

/-
Package scan: a transaction, the readings being the caller's own rows.
-/
section
namespace Go.Proofs.YteecmgonbdbhdaaDoor.A
open Go.RowKit

theorem lt03 {m : Nat} (h : Nat.ble 4 m = true) : ∀ z ∈ [0, 1, 2, 3], z < m := fun z hz => by
  have := Nat.le_of_ble_eq_true h
  simp at hz
  omega
set_option maxRecDepth 100000 in
theorem txnO_fn18 (g : Geo) (a : An) (x y : List Gt) (pos seq left : Int) (n : Nat) (W : List Wr) (hn : n = W.length) (hW : W.length ≤ 1000) (hg : okG g = true) (ha : anOk g a = true) (hl : a.label.size ≤ 1000000) (hh : a.homes.length ≤ 1000000) (hx : x.length = g.sl) (hy : y.length = g.sl) (hxb : ∀ z ∈ x, z.bytes.length ≤ 100000) (hyb : ∀ z ∈ y, z.bytes.length ≤ 100000) (hp : 0 ≤ pos ∧ pos < g.sl) (hs : 0 ≤ seq ∧ seq ≤ 4294967295) (hlf : left ≤ g.sl) :
    ACalls Tryd.prog false 60 [.bp 0 0] [.box 121 (scX g a (.ow 2 x.length) (.ow 3 y.length) pos seq left (.ow 1 n)), .row 75 2 (W.map wrC), .row 30 2 (x.map gotC), .row 30 2 (y.map gotC)]
      fun r H => r = .tp [.ag (txC (if (txnM g a x y pos seq left).1 = 1 then ⟨seq, pos, (txnM g a x y pos seq left).2.1, (txnM g a x y pos seq left).2.2.1⟩ else ⟨0, 0, 0, []⟩)), .v (.int .i64 (txnM g a x y pos seq left).1)] ∧
        H = (if (txnM g a x y pos seq left).1 = 1 then [.box 121 (scX g a (.ow 2 x.length) (.ow 3 y.length) ((pos + (txnM g a x y pos seq left).2.1).tmod g.sl) (seq + 1) (left - (txnM g a x y pos seq left).2.1) (.ow 1 (W ++ (txnM g a x y pos seq left).2.2.2).length)), .row 75 2 ((W ++ (txnM g a x y pos seq left).2.2.2).map wrC), .row 30 2 (x.map gotC), .row 30 2 (y.map gotC)] else [.box 121 (scX g a (.ow 2 x.length) (.ow 3 y.length) pos seq left (.ow 1 n)), .row 75 2 (W.map wrC), .row 30 2 (x.map gotC), .row 30 2 (y.map gotC)]) := by
  obtain ⟨h1, h2, h3, h4, h5⟩ := okG_iff.1 hg
  have rc := fun at_ of_ hat => recordO_fn g a x y pos seq left at_ of_ n W hg ha hl hh hx hy hxb hyb hp hat
  have rf := fun at_ of_ hat => recM_facts (a := a) (x := x) (y := y) (seq := seq) (left := left) (of_ := of_) (at_ := at_) hg hp hat
  have rc0 := rc 0 0 (by omega)
  have rf0 := rf 0 0 (by omega)
  unfold txnM
  simp only
  generalize recM g a x y pos seq left 0 0 = q0 at rc0 rf0 ⊢
  obtain ⟨r0, how0, ws0⟩ := q0
  simp only at rc0 rf0 ⊢
  rcases rf0 with ⟨rfl, ⟨k1, k2, k3⟩, k4⟩ | ⟨k1, rfl, rfl⟩
  · have hN := one_of k1 k3
    have hw1 : IntKind.i64.wrap (pos + r0.of_) = pos + r0.of_ := by rw [IntKind.wrap_i64]; omega
    have hw2 : IntKind.i64.wrap (seq + 1) = seq + 1 := by rw [IntKind.wrap_i64]; omega
    have hw3 : IntKind.i64.wrap (left - r0.of_) = left - r0.of_ := by have := hN.2.2.2.2.1 rfl; rw [IntKind.wrap_i64]; omega
    rw [if_neg (show ¬ (1 : Int) ≠ 1 by decide)]
    generalize hG : gatherM (fun k => recM g a x y pos seq left k r0.of_) (r0.of_ - 1).toNat 1 r0 [] ws0 = G
    refine ACalls.of tys_ok Tryd.func60 rfl rfl (by show 1 ≤ _; decide) ?_
    conv => whnf
    refine ACalls.frame [0, 1, 2, 3] rc0 rfl rfl rfl rfl (by decide) (lt03 rfl) ⟨rfl, rfl, rfl, rfl, trivial⟩ ?_
    rintro _ _ ⟨rfl, rfl⟩
    conv => whnf
    refine aDraw.seq tys_ok mixed (by kernel_rfl) ?_
    conv => whnf
    refine aLoop.rule (Nat × Rc × List Img × List Wr) (fun z => ([(0, .bp 0 0), (2, .bp 4 0), (3, .v (.int .i64 1)), (4, .bp 8 0), (5, .ow 7 z.2.2.2.length), (6, .v (.int .i64 z.1))], [.box 121 (scX g a (.ow 2 x.length) (.ow 3 y.length) pos seq left (.ow 1 n)), .row 75 2 (W.map wrC), .row 30 2 (x.map gotC), .row 30 2 (y.map gotC), .box 84 [.v (.int .i64 seq), .v (.int .i64 pos), .v (.int .i64 r0.of_), .ow 9 z.2.2.1.length], .dead, .dead, .row 75 2 (z.2.2.2.map wrC), .box 34 (rcC z.2.1), .row 32 3 (z.2.2.1.map imgC)]))
      (fun z => (1 ≤ z.1 ∧ z.1 ≤ r0.of_) ∧ (okR g z.2.1 = true ∧ z.2.1.img.bytes.length ≤ 59) ∧ (z.2.2.1.length ≤ z.1 ∧ z.2.2.2.length ≤ z.1) ∧ gatherM (fun k => recM g a x y pos seq left k r0.of_) (r0.of_ - z.1).toNat z.1 z.2.1 z.2.2.1 z.2.2.2 = G)
      (fun z => (r0.of_ - z.1).toNat) (1, r0, [], ws0) ⟨⟨Nat.le_refl 1, show ((1 : Nat) : Int) ≤ r0.of_ by omega⟩, ⟨k1, k2⟩, ⟨Nat.zero_le _, k4⟩, hG⟩ ⟨[(1004003, 32, 3)], ⟨rfl, rfl, trivial⟩, ⟨rfl, rfl, rfl, rfl, rfl, rfl, trivial⟩, ⟨rfl, rfl, rfl, rfl, rfl, rfl, rfl, rfl, trivial⟩, rfl, rfl, rfl⟩ ?_
    rintro ⟨k, r, im, w⟩ ⟨⟨b1, b2⟩, ⟨b3, b4⟩, ⟨b5, b6⟩, b7⟩
    dsimp only at b1 b2 b3 b4 b5 b6 b7 ⊢
    conv => whnf
    refine aSeq.go ?_
    conv => whnf
    refine aSeq.cut (List Img) (fun im2 => ([(0, .bp 0 0), (2, .bp 4 0), (3, .v (.int .i64 1)), (4, .bp 8 0), (5, .ow 7 w.length), (6, .v (.int .i64 k))], [.box 121 (scX g a (.ow 2 x.length) (.ow 3 y.length) pos seq left (.ow 1 n)), .row 75 2 (W.map wrC), .row 30 2 (x.map gotC), .row 30 2 (y.map gotC), .box 84 [.v (.int .i64 seq), .v (.int .i64 pos), .v (.int .i64 r0.of_), .ow 9 im2.length], .dead, .dead, .row 75 2 (w.map wrC), .box 34 (rcC r), .row 32 3 (im2.map imgC)])) (fun im2 => im2 = if r.kind = 1 then im ++ [r.img] else im) ?_ ?_
    · conv => whnf
      refine boolI (fun hk => ?_) (fun hk => ?_) <;> (repeat rw [Int.toNat_natCast] at hk) <;> conv => whnf
      · repeat' (first | (refine aSeq.go ?_; conv => whnf) | (refine boolI (fun _ => ?_) (fun _ => ?_) <;> conv => whnf) | (refine Fn.closed (clone_br r.img.bytes (by omega)) rfl ?_; rintro _ rfl; conv => whnf) | (refine And.intro (by first | omega | exact of_decide_eq_true rfl) ?_; conv => whnf) | fail)
        refine And.intro ⟨by simp, by omega⟩ ?_
        conv => whnf
        exact ⟨im ++ [r.img], by rw [if_pos hk], [], trivial, ⟨rfl, rfl, rfl, rfl, rfl, rfl, trivial⟩, ⟨rfl, rfl, rfl, rfl, by rw [List.length_append]; rfl, rfl, rfl, by rw [List.map_append]; rfl, trivial⟩, rfl, rfl, rfl⟩
      · exact ⟨im, by rw [if_neg hk], [], trivial, ⟨rfl, rfl, rfl, rfl, rfl, rfl, trivial⟩, ⟨rfl, rfl, rfl, rfl, rfl, rfl, rfl, rfl, trivial⟩, rfl, rfl, rfl⟩
    · rintro im2 him
      have hl2 : im2.length ≤ k + 1 := by
        rw [him]
        split
        · rw [List.length_append]
          simp only [List.length_cons, List.length_nil]
          omega
        · omega
      conv => whnf
      refine boolI (fun hkN => ?_) (fun hkN => ?_) <;> (repeat rw [Int.toNat_natCast] at hkN) <;> conv => whnf
      · refine And.intro (by rw [List.length_map]) ?_
        conv => whnf
        refine And.intro ⟨by rw [List.length_map]; exact hn, by omega⟩ ?_
        conv => whnf
        apply aDraw.treeM 235929600 tys_ok mixed (.one 0 (.one 1 (.one 2 (.one 3 (.one 4 (.one 5 (.one 6 (.one 7 (.one 8 (.one 9 (.one 10 (.one 11 (.one 12 (.one 13 (.one 14 (.one 15 (.one 16 (.one 17 (.one 18 (.one 19 (.one 21 (.one 22 (.one 23 (.one 24 (.one 28 (.one 29 (.three 20 (.two 25 (.two 26 (.two 27 (.one 30 (.one 31 (.one 32 (.one 33 (.one 34 (.one 35 (.one 36 .fin))))))) 30 (.one 31 (.one 32 (.two 27 (.one 33 (.one 34 (.one 35 (.one 36 .fin)))) 33 (.one 27 (.one 34 (.one 35 (.one 36 .fin)))))))) 30 (.one 31 (.one 32 (.two 26 (.two 27 (.one 33 (.one 34 (.one 35 (.one 36 .fin)))) 33 (.one 27 (.one 34 (.one 35 (.one 36 .fin))))) 33 (.one 26 (.one 27 (.one 34 (.one 35 (.one 36 .fin))))))))) 30 (.one 31 (.one 32 (.two 25 (.two 26 (.two 27 (.one 33 (.one 34 (.one 35 (.one 36 .fin)))) 33 (.one 27 (.one 34 (.one 35 (.one 36 .fin))))) 33 (.one 26 (.one 27 (.one 34 (.one 35 (.one 36 .fin)))))) 33 (.one 25 (.one 26 (.one 27 (.one 34 (.one 35 (.one 36 .fin)))))))))) 25 (.three 20 (.two 26 (.two 27 (.one 30 (.one 31 (.one 32 (.one 33 (.one 34 (.one 35 (.one 36 .fin))))))) 30 (.one 31 (.one 32 (.two 27 (.one 33 (.one 34 (.one 35 (.one 36 .fin)))) 33 (.one 27 (.one 34 (.one 35 (.one 36 .fin)))))))) 30 (.one 31 (.one 32 (.two 26 (.two 27 (.one 33 (.one 34 (.one 35 (.one 36 .fin)))) 33 (.one 27 (.one 34 (.one 35 (.one 36 .fin))))) 33 (.one 26 (.one 27 (.one 34 (.one 35 (.one 36 .fin))))))))) 26 (.three 20 (.two 27 (.one 30 (.one 31 (.one 32 (.one 33 (.one 34 (.one 35 (.one 36 .fin))))))) 30 (.one 31 (.one 32 (.two 27 (.one 33 (.one 34 (.one 35 (.one 36 .fin)))) 33 (.one 27 (.one 34 (.one 35 (.one 36 .fin)))))))) 27 (.two 20 (.one 30 (.one 31 (.one 32 (.one 33 (.one 34 (.one 35 (.one 36 .fin))))))) 30 (.one 20 (.one 31 (.one 32 (.one 33 (.one 34 (.one 35 (.one 36 .fin)))))))) 30 (.two 20 (.one 31 (.one 32 (.two 27 (.one 33 (.one 34 (.one 35 (.one 36 .fin)))) 33 (.one 27 (.one 34 (.one 35 (.one 36 .fin))))))) 27 (.one 20 (.one 31 (.one 32 (.one 33 (.one 34 (.one 35 (.one 36 .fin))))))))) 30 (.two 20 (.one 31 (.one 32 (.two 26 (.two 27 (.one 33 (.one 34 (.one 35 (.one 36 .fin)))) 33 (.one 27 (.one 34 (.one 35 (.one 36 .fin))))) 33 (.one 26 (.one 27 (.one 34 (.one 35 (.one 36 .fin)))))))) 26 (.two 20 (.one 31 (.one 32 (.two 27 (.one 33 (.one 34 (.one 35 (.one 36 .fin)))) 33 (.one 27 (.one 34 (.one 35 (.one 36 .fin))))))) 27 (.one 20 (.one 31 (.one 32 (.one 33 (.one 34 (.one 35 (.one 36 .fin)))))))))) 30 (.two 20 (.one 31 (.one 32 (.two 25 (.two 26 (.two 27 (.one 33 (.one 34 (.one 35 (.one 36 .fin)))) 33 (.one 27 (.one 34 (.one 35 (.one 36 .fin))))) 33 (.one 26 (.one 27 (.one 34 (.one 35 (.one 36 .fin)))))) 33 (.one 25 (.one 26 (.one 27 (.one 34 (.one 35 (.one 36 .fin))))))))) 25 (.two 20 (.one 31 (.one 32 (.two 26 (.two 27 (.one 33 (.one 34 (.one 35 (.one 36 .fin)))) 33 (.one 27 (.one 34 (.one 35 (.one 36 .fin))))) 33 (.one 26 (.one 27 (.one 34 (.one 35 (.one 36 .fin)))))))) 26 (.two 20 (.one 31 (.one 32 (.two 27 (.one 33 (.one 34 (.one 35 (.one 36 .fin)))) 33 (.one 27 (.one 34 (.one 35 (.one 36 .fin))))))) 27 (.one 20 (.one 31 (.one 32 (.one 33 (.one 34 (.one 35 (.one 36 .fin))))))))))))))))))))))))))))))))))))) [76, 77, 78, 79, 80, 81, 82, 83, 84, 85, 86, 87, 88, 89, 90, 91, 92, 93, 94, 95, 96, 97, 98, 99, 100, 101, 102, 103, 104, 105, 106, 107, 108, 109] (by kernel_rfl)
        · conv => whnf
          refine And.intro (by omega) ?_
          conv => whnf
          refine And.intro ?_ (And.intro ?_ ?_)
          · conv => whnf
            refine And.intro ?_ ?_
            · conv => whnf
              refine And.intro ?_ ?_
              · conv => whnf
                refine And.intro ?_ ?_
                · conv => whnf
                  exact ⟨rfl, rfl⟩
                · conv => whnf
                  refine And.intro ?_ ?_
                  · conv => whnf
                    exact ⟨rfl, rfl⟩
                  · conv => whnf
                    exact ⟨rfl, rfl⟩
              · conv => whnf
                refine And.intro ?_ ?_
                · conv => whnf
                  refine And.intro ?_ ?_
                  · conv => whnf
                    exact ⟨rfl, rfl⟩
                  · conv => whnf
                    exact ⟨rfl, rfl⟩
                · conv => whnf
                  exact ⟨rfl, rfl⟩
            · conv => whnf
              refine And.intro ?_ ?_
              · conv => whnf
                refine And.intro ?_ ?_
                · conv => whnf
                  refine And.intro ?_ ?_
                  · conv => whnf
                    exact ⟨rfl, rfl⟩
                  · conv => whnf
                    exact ⟨rfl, rfl⟩
                · conv => whnf
                  exact ⟨rfl, rfl⟩
              · conv => whnf
                exact ⟨rfl, rfl⟩
          · conv => whnf
            refine And.intro ?_ (And.intro ?_ ?_)
            · conv => whnf
              refine And.intro ?_ ?_
              · conv => whnf
                refine And.intro ?_ ?_
                · conv => whnf
                  exact ⟨rfl, rfl⟩
                · conv => whnf
                  refine And.intro ?_ ?_
                  · conv => whnf
                    exact ⟨rfl, rfl⟩
                  · conv => whnf
                    exact ⟨rfl, rfl⟩
              · conv => whnf
                refine And.intro ?_ ?_
                · conv => whnf
                  refine And.intro ?_ ?_
                  · conv => whnf
                    exact ⟨rfl, rfl⟩
                  · conv => whnf
                    exact ⟨rfl, rfl⟩
                · conv => whnf
                  exact ⟨rfl, rfl⟩
            · conv => whnf
              refine And.intro ?_ (And.intro ?_ ?_)
              · conv => whnf
                refine And.intro ?_ ?_
                · conv => whnf
                  exact ⟨rfl, rfl⟩
                · conv => whnf
                  refine And.intro ?_ ?_
                  · conv => whnf
                    exact ⟨rfl, rfl⟩
                  · conv => whnf
                    exact ⟨rfl, rfl⟩
              · conv => whnf
                refine And.intro ?_ ?_
                · conv => whnf
                  exact ⟨rfl, rfl⟩
                · conv => whnf
                  exact ⟨rfl, rfl⟩
              · conv => whnf
                refine And.intro ?_ ?_
                · conv => whnf
                  refine And.intro ?_ ?_
                  · conv => whnf
                    exact ⟨rfl, rfl⟩
                  · conv => whnf
                    exact ⟨rfl, rfl⟩
                · conv => whnf
                  exact ⟨rfl, rfl⟩
            · conv => whnf
              refine And.intro ?_ ?_
              · conv => whnf
                refine And.intro ?_ ?_
                · conv => whnf
                  refine And.intro ?_ ?_
                  · conv => whnf
                    exact ⟨rfl, rfl⟩
                  · conv => whnf
                    exact ⟨rfl, rfl⟩
                · conv => whnf
                  exact ⟨rfl, rfl⟩
              · conv => whnf
                refine And.intro ?_ ?_
                · conv => whnf
                  refine And.intro ?_ ?_
                  · conv => whnf
                    exact ⟨rfl, rfl⟩
                  · conv => whnf
                    exact ⟨rfl, rfl⟩
                · conv => whnf
                  exact ⟨rfl, rfl⟩
          · conv => whnf
            refine And.intro ?_ ?_
            · conv => whnf
              refine And.intro ?_ ?_
              · conv => whnf
                refine And.intro ?_ ?_
                · conv => whnf
                  refine And.intro ?_ ?_
                  · conv => whnf
                    exact ⟨rfl, rfl⟩
                  · conv => whnf
                    exact ⟨rfl, rfl⟩
                · conv => whnf
                  exact ⟨rfl, rfl⟩
              · conv => whnf
                exact ⟨rfl, rfl⟩
            · conv => whnf
              refine And.intro ?_ ?_
              · conv => whnf
                refine And.intro ?_ ?_
                · conv => whnf
                  refine And.intro ?_ ?_
                  · conv => whnf
                    exact ⟨rfl, rfl⟩
                  · conv => whnf
                    exact ⟨rfl, rfl⟩
                · conv => whnf
                  exact ⟨rfl, rfl⟩
              · conv => whnf
                refine And.intro ?_ ?_
                · conv => whnf
                  refine And.intro ?_ ?_
                  · conv => whnf
                    exact ⟨rfl, rfl⟩
                  · conv => whnf
                    exact ⟨rfl, rfl⟩
                · conv => whnf
                  exact ⟨rfl, rfl⟩
        conv => whnf
        refine And.intro (by rw [List.length_map]) ?_
        conv => whnf
        have e0 : (r0.of_ - (k : Int)).toNat = 0 := by omega
        rw [e0] at b7
        simp only [gatherM] at b7
        rw [← him] at b7
        subst b7
        rw [hw1, hw2, hw3]
        refine ⟨.tp [.ag (txC ⟨seq, pos, r0.of_, im2⟩), .v (.int .i64 1)], [.box 121 (scX g a (.ow 2 x.length) (.ow 3 y.length) ((pos + r0.of_).tmod g.sl) (seq + 1) (left - r0.of_) (.ow 1 (W ++ w).length)), .row 75 2 ((W ++ w).map wrC), .row 30 2 (x.map gotC), .row 30 2 (y.map gotC)], ?_, ⟨?_, ?_, rfl, rfl, trivial⟩, rfl, rfl, rfl, rfl⟩
        · refine tp_sub ?_
          exact ⟨ag_sub ⟨fun _ _ h => h, fun _ _ h => h, fun _ _ h => h, row_sub im2 rfl rfl, trivial⟩, fun _ _ h => h, trivial⟩
        · rw [List.length_append, ← hn]
        · rw [List.map_append]
      · have rck := rc k r0.of_ (by omega)
        have rfk := rf k r0.of_ (by omega)
        rw [show (r0.of_ - (k : Int)).toNat = (r0.of_ - ((k + 1 : Nat) : Int)).toNat + 1 by omega] at b7
        unfold gatherM at b7
        simp only at b7
        generalize recM g a x y pos seq left k r0.of_ = qk at rck rfk b7
        obtain ⟨rk, hk, wk⟩ := qk
        simp only at rck rfk b7
        rcases rfk with ⟨rfl, ⟨e1, e2, e3⟩, e4⟩ | ⟨e1, rfl, rfl⟩
        · refine ACalls.frame [0, 1, 2, 3] rck rfl rfl rfl rfl (by decide) (lt03 rfl) ⟨rfl, rfl, rfl, rfl, trivial⟩ ?_
          rintro _ _ ⟨rfl, rfl⟩
          conv => whnf
          refine And.intro (by rw [List.length_map]) ?_
          conv => whnf
          refine And.intro ⟨by rw [List.length_map], by omega⟩ ?_
          conv => whnf
          exact ⟨(k + 1, rk, im2, w ++ wk), ⟨⟨Nat.succ_le_succ (Nat.zero_le _), show ((k + 1 : Nat) : Int) ≤ r0.of_ by omega⟩, ⟨e1, e2⟩, ⟨hl2, show (w ++ wk).length ≤ k + 1 by rw [List.length_append]; omega⟩, by rw [if_neg (show ¬ (1 : Int) ≠ 1 by decide), ← him] at b7; exact b7⟩, show (r0.of_ - ((k + 1 : Nat) : Int)).toNat < (r0.of_ - (k : Int)).toNat by omega, [], trivial, ⟨rfl, rfl, rfl, rfl, by rw [List.length_append]; rfl, wsucc (by omega), trivial⟩, ⟨rfl, rfl, rfl, rfl, rfl, by rw [List.map_append], rfl, rfl, trivial⟩, rfl, rfl, rfl⟩
        · rcases e1 with rfl | rfl
          all_goals
            refine ACalls.frame [0, 1, 2, 3] rck rfl rfl rfl rfl (by decide) (lt03 rfl) ⟨rfl, rfl, rfl, rfl, trivial⟩ ?_
            rintro _ _ ⟨rfl, rfl⟩
            conv => whnf
            rw [if_pos (by decide)] at b7
            subst b7
            exact ⟨_, [.box 121 (scX g a (.ow 2 x.length) (.ow 3 y.length) pos seq left (.ow 1 n)), .row 75 2 (W.map wrC), .row 30 2 (x.map gotC), .row 30 2 (y.map gotC)], tx0_sub _, ⟨rfl, rfl, rfl, rfl, trivial⟩, rfl, rfl, rfl, rfl⟩
  · rw [if_pos (show how0 ≠ 1 by omega)]
    simp only [if_neg (show ¬ how0 = 1 by omega)]
    refine ACalls.of tys_ok Tryd.func60 rfl rfl (by show 1 ≤ _; decide) ?_
    rcases k1 with rfl | rfl
    all_goals
      conv => whnf
      refine ACalls.frame [0, 1, 2, 3] rc0 rfl rfl rfl rfl (by decide) (lt03 rfl) ⟨rfl, rfl, rfl, rfl, trivial⟩ ?_
      rintro _ _ ⟨rfl, rfl⟩
      conv => whnf
      exact ⟨_, [.box 121 (scX g a (.ow 2 x.length) (.ow 3 y.length) pos seq left (.ow 1 n)), .row 75 2 (W.map wrC), .row 30 2 (x.map gotC), .row 30 2 (y.map gotC)], tx0_sub _, ⟨rfl, rfl, rfl, rfl, trivial⟩, rfl, rfl, rfl, rfl⟩
end Go.Proofs.YteecmgonbdbhdaaDoor.A
end

/-
Package scan: Scan, the readings being the caller's own rows.
-/
section
namespace Go.Proofs.YteecmgonbdbhdaaDoor.A
open Go.RowKit

theorem lt46 {m : Nat} (h : Nat.ble 7 m = true) : ∀ z ∈ [4, 6, 0, 1], z < m := fun z hz => by
  have := Nat.le_of_ble_eq_true h
  simp at hz
  omega
set_option maxRecDepth 100000 in
set_option maxHeartbeats 4000000 in
theorem scanO_fn (g : Geo) (a : An) (x y : List Gt) (hl : a.label.size ≤ 1000000) (hh : a.homes.length ≤ 1000000) (hxb : ∀ z ∈ x, z.bytes.length ≤ 100000) (hyb : ∀ z ∈ y, z.bytes.length ≤ 100000) :
    ACalls Tryd.prog false 34 [.ag (geoC g), .ag (anC a), .ow 0 x.length, .ow 1 y.length] [.row 30 2 (x.map gotC), .row 30 2 (y.map gotC)] fun r H => r = .tp [txsA (scanA g a x y).1, wrsA (scanA g a x y).2.1, .v (.int .i64 (scanA g a x y).2.2)] ∧ H = [.row 30 2 (x.map gotC), .row 30 2 (y.map gotC)] := by
  have s1 := acheck_fn g a hl hh
  unfold scanA
  cases hA : okG g && anOk g a with
  | false =>
    rw [hA] at s1
    refine ACalls.of tys_ok Tryd.func34 rfl rfl (by show 4 ≤ _; decide) ?_
    conv => whnf
    refine Fn.closed (s1) rfl ?_
    rintro _ rfl
    conv => whnf
    exact ⟨_, [.row 30 2 (x.map gotC), .row 30 2 (y.map gotC)], fun c u h => scan0_sub 1 c u h, ⟨rfl, rfl, trivial⟩, rfl, rfl, rfl, rfl⟩
  | true =>
    rw [hA] at s1
    obtain ⟨hg, ha⟩ := Bool.and_eq_true_iff.1 hA
    obtain ⟨h1, h2, h3, h4, h5⟩ := okG_iff.1 hg
    rw [if_pos rfl]
    by_cases hx : (x.length : Int) = g.sl ∧ (y.length : Int) = g.sl
    · rw [if_pos hx]
      obtain ⟨hx, hy⟩ := hx
      refine ACalls.of tys_ok Tryd.func34 rfl rfl (by show 4 ≤ _; decide) ?_
      conv => whnf
      refine Fn.closed (s1) rfl ?_
      rintro _ rfl
      conv => whnf
      refine boolI (fun t1 => ?_) (fun t1 => ?_) <;> (repeat rw [Int.toNat_natCast] at t1) <;> conv => whnf
      · exact absurd hx t1
      refine boolI (fun t2 => ?_) (fun t2 => ?_) <;> (repeat rw [Int.toNat_natCast] at t2) <;> conv => whnf
      · exact absurd hy t2
      have hq := anOk_seq ha
      unfold scanM
      generalize hR : scanL g a x y g.sl.toNat a.pos a.seq g.sl [] [] = R
      refine aLoop.rule (Nat × Int × Int × Int × List Tx × List Wr) (fun z => ([(5, .bp 3 0), (11, .bp 4 0), (8, .ow 5 z.2.2.2.2.1.length)], [.row 30 2 (x.map gotC), .row 30 2 (y.map gotC), .box 23 (geoC g), .box 26 (anC a), .box 121 (scX g a (.ow 0 x.length) (.ow 1 y.length) z.2.1 z.2.2.1 z.2.2.2.1 (.ow 6 z.2.2.2.2.2.length)), .row 84 4 (z.2.2.2.2.1.map txC), .row 75 2 (z.2.2.2.2.2.map wrC)]))
        (fun z => scanL g a x y z.1 z.2.1 z.2.2.1 z.2.2.2.1 z.2.2.2.2.1 z.2.2.2.2.2 = R ∧ z.2.2.2.1 ≤ z.1 ∧ (0 ≤ z.2.1 ∧ z.2.1 < g.sl) ∧ (0 ≤ z.2.2.1 ∧ z.2.2.1 ≤ 4294967296) ∧ z.2.2.2.2.1.length * 2 + z.2.2.2.1 ≤ g.sl ∧ z.2.2.2.2.2.length ≤ z.2.2.2.2.1.length * 30)
        (fun z => z.1) (g.sl.toNat, a.pos, a.seq, g.sl, [], []) ⟨hR, show g.sl ≤ (g.sl.toNat : Int) by omega, hq.2, hq.1, show (0 : Int) * 2 + g.sl ≤ g.sl by omega, Nat.le_refl 0⟩ ⟨[(8, 84, 4), (1004017, 75, 2)], ⟨rfl, rfl, rfl, rfl, trivial⟩, ⟨rfl, rfl, rfl, trivial⟩, ⟨rfl, rfl, rfl, rfl, rfl, rfl, rfl, trivial⟩, rfl, rfl, rfl⟩ ?_
      rintro ⟨f, pos, seq, left, l, w⟩ ⟨b1, b2, b3, b4, b5, b6⟩
      dsimp only at b1 b2 b3 b4 b5 b6 ⊢
      conv => whnf
      refine boolI (fun c1 => ?_) (fun c1 => ?_) <;> (repeat rw [Int.toNat_natCast] at c1) <;> conv => whnf
      · refine boolI (fun c2 => ?_) (fun c2 => ?_) <;> (repeat rw [Int.toNat_natCast] at c2) <;> conv => whnf
        · cases f with
          | zero => exfalso; omega
          | succ f =>
            unfold scanL at b1
            rw [if_pos ⟨c1, c2⟩] at b1
            simp only at b1
            have tx := txnO_fn18 g a x y pos seq left w.length w rfl (by omega) hg ha hl hh hx hy hxb hyb b3 ⟨b4.1, c2⟩ (by omega)
            have tf := txnM_facts (a := a) (x := x) (y := y) (seq := seq) (left := left) hg b3
            generalize txnM g a x y pos seq left = q at tx tf b1
            obtain ⟨how, n, im, ws⟩ := q
            simp only at tx tf b1
            rcases tf with ⟨rfl, tf1, tf2⟩ | tf
            · rw [if_pos rfl, if_pos rfl] at tx
              have hm := Int.tmod_lt_of_pos (pos + n) (show 0 < g.sl by omega)
              have hm0 := Int.tmod_nonneg g.sl (show 0 ≤ pos + n by omega)
              have hI2 : scanL g a x y f ((pos + n).tmod g.sl) (seq + 1) (left - n) (l ++ [⟨seq, pos, n, im⟩]) (w ++ ws) = R ∧ left - n ≤ (f : Int) ∧ (0 ≤ (pos + n).tmod g.sl ∧ (pos + n).tmod g.sl < g.sl) ∧ (0 ≤ seq + 1 ∧ seq + 1 ≤ 4294967296) ∧ ((l ++ [(⟨seq, pos, n, im⟩ : Tx)]).length : Int) * 2 + (left - n) ≤ g.sl ∧ (w ++ ws).length ≤ (l ++ [(⟨seq, pos, n, im⟩ : Tx)]).length * 30 := by
                rw [if_neg (by decide), if_neg (by decide)] at b1
                rw [List.length_append, List.length_append]
                simp only [List.length_cons, List.length_nil]
                exact ⟨b1, by omega, ⟨hm0, hm⟩, by omega, by omega, by omega⟩
              refine ACalls.frame [4, 6, 0, 1] tx rfl rfl rfl rfl (by decide) (lt46 rfl) ⟨rfl, rfl, rfl, rfl, trivial⟩ ?_
              rintro _ _ ⟨rfl, rfl⟩
              conv => whnf
              refine And.intro rfl ?_
              conv => whnf
              refine And.intro ⟨by rw [List.length_map], by omega⟩ ?_
              conv => whnf
              refine ⟨(f, (pos + n).tmod g.sl, seq + 1, left - n, l ++ [⟨seq, pos, n, im⟩], w ++ ws), ?_, Nat.lt_succ_self f, [], trivial, ⟨rfl, rfl, congrArg (AV.ow 5) (show l.length + 1 = (l ++ [(⟨seq, pos, n, im⟩ : Tx)]).length by rw [List.length_append]; rfl), trivial⟩, ⟨rfl, rfl, rfl, rfl, rfl, by rw [List.map_append]; rfl, rfl, trivial⟩, rfl, rfl, rfl⟩
              exact hI2
            · rw [if_neg (show ¬ how = 1 by omega), if_neg (show ¬ how = 1 by omega)] at tx
              rcases tf with rfl | rfl
              · rw [if_neg (by decide), if_pos (by decide)] at b1
                subst b1
                refine ACalls.frame [4, 6, 0, 1] tx rfl rfl rfl rfl (by decide) (lt46 rfl) ⟨rfl, rfl, rfl, rfl, trivial⟩ ?_
                rintro _ _ ⟨rfl, rfl⟩
                conv => whnf
                refine aDraw.seq tys_ok mixed (by kernel_rfl) ?_
                conv => whnf
                have hws : IntKind.i64.wrap (seq - 1) = seq - 1 := by rw [IntKind.wrap_i64]; omega
                refine boolI (fun e1 => ?_) (fun e1 => ?_) <;> (repeat rw [Int.toNat_natCast] at e1) <;> conv => whnf
                · rw [hws] at e1
                  exact ⟨_, [.row 30 2 (x.map gotC), .row 30 2 (y.map gotC)], fun c u h => scan0_sub 12 c u h, ⟨rfl, rfl, trivial⟩, rfl, rfl, by rw [finM_pos e1]; rfl, rfl⟩
                · rw [hws] at e1
                  refine aDraw.seq tys_ok mixed (by kernel_rfl) ?_
                  conv => whnf
                  refine And.intro (by rw [List.length_map]) ?_
                  conv => whnf
                  refine And.intro (by rw [List.length_map]) ?_
                  conv => whnf
                  exact ⟨.tp [txsA l, wrsA w, .v (.int .i64 0)], [.row 30 2 (x.map gotC), .row 30 2 (y.map gotC)], tp_sub ⟨row_sub l rfl rfl, row_sub w rfl rfl, fun _ _ h => h, trivial⟩, ⟨rfl, rfl, trivial⟩, rfl, rfl, by rw [finM_neg (by omega)], rfl⟩
              · rw [if_pos rfl] at b1
                subst b1
                refine ACalls.frame [4, 6, 0, 1] tx rfl rfl rfl rfl (by decide) (lt46 rfl) ⟨rfl, rfl, rfl, rfl, trivial⟩ ?_
                rintro _ _ ⟨rfl, rfl⟩
                conv => whnf
                exact ⟨_, [.row 30 2 (x.map gotC), .row 30 2 (y.map gotC)], fun c u h => scan0_sub 12 c u h, ⟨rfl, rfl, trivial⟩, rfl, rfl, rfl, rfl⟩
        · have hb : some (l, w, seq) = R := by
            cases f with
            | zero => exact b1
            | succ f => unfold scanL at b1; rw [if_neg (by omega)] at b1; exact b1
          subst hb
          refine aDraw.seq tys_ok mixed (by kernel_rfl) ?_
          conv => whnf
          have hws : IntKind.i64.wrap (seq - 1) = seq - 1 := by rw [IntKind.wrap_i64]; omega
          refine boolI (fun e1 => ?_) (fun e1 => ?_) <;> (repeat rw [Int.toNat_natCast] at e1) <;> conv => whnf
          · rw [hws] at e1
            exact ⟨_, [.row 30 2 (x.map gotC), .row 30 2 (y.map gotC)], fun c u h => scan0_sub 12 c u h, ⟨rfl, rfl, trivial⟩, rfl, rfl, by rw [finM_pos e1]; rfl, rfl⟩
          · rw [hws] at e1
            refine aDraw.seq tys_ok mixed (by kernel_rfl) ?_
            conv => whnf
            refine And.intro (by rw [List.length_map]) ?_
            conv => whnf
            refine And.intro (by rw [List.length_map]) ?_
            conv => whnf
            exact ⟨.tp [txsA l, wrsA w, .v (.int .i64 0)], [.row 30 2 (x.map gotC), .row 30 2 (y.map gotC)], tp_sub ⟨row_sub l rfl rfl, row_sub w rfl rfl, fun _ _ h => h, trivial⟩, ⟨rfl, rfl, trivial⟩, rfl, rfl, by rw [finM_neg (by omega)], rfl⟩
      · have hb : some (l, w, seq) = R := by
          cases f with
          | zero => exact b1
          | succ f => unfold scanL at b1; rw [if_neg (by omega)] at b1; exact b1
        subst hb
        refine aDraw.seq tys_ok mixed (by kernel_rfl) ?_
        conv => whnf
        have hws : IntKind.i64.wrap (seq - 1) = seq - 1 := by rw [IntKind.wrap_i64]; omega
        refine boolI (fun e1 => ?_) (fun e1 => ?_) <;> (repeat rw [Int.toNat_natCast] at e1) <;> conv => whnf
        · rw [hws] at e1
          exact ⟨_, [.row 30 2 (x.map gotC), .row 30 2 (y.map gotC)], fun c u h => scan0_sub 12 c u h, ⟨rfl, rfl, trivial⟩, rfl, rfl, by rw [finM_pos e1]; rfl, rfl⟩
        · rw [hws] at e1
          refine aDraw.seq tys_ok mixed (by kernel_rfl) ?_
          conv => whnf
          refine And.intro (by rw [List.length_map]) ?_
          conv => whnf
          refine And.intro (by rw [List.length_map]) ?_
          conv => whnf
          exact ⟨.tp [txsA l, wrsA w, .v (.int .i64 0)], [.row 30 2 (x.map gotC), .row 30 2 (y.map gotC)], tp_sub ⟨row_sub l rfl rfl, row_sub w rfl rfl, fun _ _ h => h, trivial⟩, ⟨rfl, rfl, trivial⟩, rfl, rfl, by rw [finM_neg (by omega)], rfl⟩
    · rw [if_neg hx]
      refine ACalls.of tys_ok Tryd.func34 rfl rfl (by show 4 ≤ _; decide) ?_
      conv => whnf
      refine Fn.closed (s1) rfl ?_
      rintro _ rfl
      conv => whnf
      refine boolI (fun t1 => ?_) (fun t1 => ?_) <;> (repeat rw [Int.toNat_natCast] at t1) <;> conv => whnf
      · exact ⟨_, [.row 30 2 (x.map gotC), .row 30 2 (y.map gotC)], fun c u h => scan0_sub 2 c u h, ⟨rfl, rfl, trivial⟩, rfl, rfl, rfl, rfl⟩
      refine boolI (fun t2 => ?_) (fun t2 => ?_) <;> (repeat rw [Int.toNat_natCast] at t2) <;> conv => whnf
      · exact ⟨_, [.row 30 2 (x.map gotC), .row 30 2 (y.map gotC)], fun c u h => scan0_sub 2 c u h, ⟨rfl, rfl, trivial⟩, rfl, rfl, rfl, rfl⟩
      · exact absurd ⟨t1, t2⟩ hx
end Go.Proofs.YteecmgonbdbhdaaDoor.A
end

/-
What a written log says; a scan by what the copies say.
-/
section
namespace Go.Proofs.YteecmgonbdbhdaaDoor.A
open Go.RowKit

theorem written_says {g : Geo} {l : List Tx} {epoch : Int} (hg : okG g = true) (h : LogOk g l epoch) {copy : Int} (hc : copy = 0 ∨ copy = 1) {s : Nat} (hs : (s : Int) < g.sl) : saysR g ((writtenM g l epoch copy g.sl.toNat).getD s gz) copy (s : Nat) = some (recW g l epoch (s : Nat)) := by
  have hin : (0 : Int) ≤ (s : Nat) ∧ ((s : Nat) : Int) < g.sl := by omega
  have e : (writtenM g l epoch copy g.sl.toNat).getD s gz = ⟨0, cellB g (recW g l epoch (s : Nat)) copy (s : Nat)⟩ := by
    unfold writtenM
    rw [map_getD (d := 0) (by rw [List.length_range]; omega)]
    rw [List.getD_eq_getElem?_getD, List.getElem?_range (by omega)]
    rfl
  rw [e]
  refine says_cell hg (h.ok s hin) ?_
  rw [okL, inB_iff.2 (show 0 ≤ ((s : Nat) : Int) ∧ ((s : Nat) : Int) ≤ g.sl - 1 by omega)]
  rcases hc with rfl | rfl <;> rfl
theorem saysR_out {g : Geo} {x : Gt} {copy s : Int} (h : ¬ (0 ≤ s ∧ s < g.sl)) : saysR g x copy s = none := by
  refine saysR_none ?_
  have : inB s 0 (g.sl - 1) = false := by
    rw [← Bool.not_eq_true]
    intro e
    have := inB_iff.1 e
    omega
  rw [okL, this]
  simp
def lookP (a : An) (p q : Int → Option Rc) (slot seq at_ of_ left : Int) : Rc × List Int × Int :=
  lookT (p slot) (q slot) (oneO (p slot) a seq at_ of_ left) (oneO (q slot) a seq at_ of_ left)
def recP (g : Geo) (a : An) (p q : Int → Option Rc) (pos seq left at_ of_ : Int) : Rc × Int × List Wr :=
  let s := slotM g pos at_
  let z := lookP a p q s seq at_ of_ left
  (z.1, z.2.2, z.2.1.map fun c => ⟨logAt g c s, cellB g z.1 c s⟩)
def txnP (g : Geo) (a : An) (p q : Int → Option Rc) (pos seq left : Int) : Int × Int × List Img × List Wr :=
  let z := recP g a p q pos seq left 0 0
  if z.2.1 ≠ 1 then (z.2.1, 0, [], []) else
    let t := gatherM (fun k => recP g a p q pos seq left k z.1.of_) (z.1.of_ - 1).toNat 1 z.1 [] z.2.2
    if t.1 ≠ 1 then (t.1, 0, [], []) else (1, z.1.of_, t.2.1, t.2.2)
def scanLP (g : Geo) (a : An) (p q : Int → Option Rc) : Nat → Int → Int → Int → List Tx → List Wr → Option (List Tx × List Wr × Int)
  | 0, _, seq, _, l, w => some (l, w, seq)
  | f + 1, pos, seq, left, l, w =>
    if 0 < left ∧ seq ≤ 4294967295 then
      let t := txnP g a p q pos seq left
      if t.1 = 3 then none else if t.1 ≠ 1 then some (l, w, seq)
      else scanLP g a p q f ((pos + t.2.1).tmod g.sl) (seq + 1) (left - t.2.1) (l ++ [⟨seq, pos, t.2.1, t.2.2.1⟩]) (w ++ t.2.2.2)
    else some (l, w, seq)
def scanP (g : Geo) (a : An) (p q : Int → Option Rc) : List Tx × List Wr × Int := finM a (scanLP g a p q g.sl.toNat a.pos a.seq g.sl [] [])
def saysF (g : Geo) (x : List Gt) (copy : Int) : Int → Option Rc := fun s => saysR g (x.getD s.toNat gz) copy s
theorem scanL_P (g : Geo) (a : An) (x y : List Gt) : ∀ (f : Nat) (pos seq left : Int) (l : List Tx) (w : List Wr), scanL g a x y f pos seq left l w = scanLP g a (saysF g x 0) (saysF g y 1) f pos seq left l w
  | 0, _, _, _, _, _ => rfl
  | f + 1, pos, seq, left, l, w => by
    unfold scanL scanLP
    have e : txnM g a x y pos seq left = txnP g a (saysF g x 0) (saysF g y 1) pos seq left := rfl
    rw [e]
    simp only [scanL_P g a x y f]
theorem scanM_P (g : Geo) (a : An) (x y : List Gt) : scanM g a x y = scanP g a (saysF g x 0) (saysF g y 1) := by
  unfold scanM scanP
  rw [scanL_P]
/-- What a written copy says, some of its readings spoilt. -/
def saysW (g : Geo) (l : List Tx) (epoch : Int) (bad : Int → Bool) : Int → Option Rc := fun s => if 0 ≤ s ∧ s < g.sl then (if bad s then none else some (recW g l epoch s)) else none
theorem saysF_W {g : Geo} {l : List Tx} {epoch : Int} (hg : okG g = true) (h : LogOk g l epoch) {copy : Int} (hc : copy = 0 ∨ copy = 1) : saysF g (writtenM g l epoch copy g.sl.toNat) copy = saysW g l epoch fun _ => false := by
  funext s
  unfold saysF saysW
  by_cases hs : 0 ≤ s ∧ s < g.sl
  · rw [if_pos hs, if_neg (Bool.false_ne_true)]
    obtain ⟨k, rfl⟩ := Int.eq_ofNat_of_zero_le hs.1
    rw [Int.toNat_natCast]
    exact written_says hg h hc hs.2
  · rw [if_neg hs]
    exact saysR_out hs
/-- A reading set to one that says nothing. -/
theorem saysF_set {g : Geo} {x : List Gt} {copy : Int} {k : Nat} {z : Gt} {l : List Tx} {epoch : Int} {bad : Int → Bool} (h : saysF g x copy = saysW g l epoch bad) (hk : k < x.length) (hz : saysR g z copy (k : Nat) = none) : saysF g (x.set k z) copy = saysW g l epoch fun s => decide (s = (k : Nat)) || bad s := by
  funext s
  have hs' := congrFun h s
  unfold saysF at hs' ⊢
  by_cases hs : 0 ≤ s ∧ s < g.sl
  · obtain ⟨i, rfl⟩ := Int.eq_ofNat_of_zero_le hs.1
    rw [Int.toNat_natCast] at hs' ⊢
    unfold saysW at hs' ⊢
    rw [if_pos hs] at hs' ⊢
    by_cases e : i = k
    · subst e
      rw [List.getD_eq_getElem?_getD, List.getElem?_set_self hk]
      simp only [Option.getD_some]
      rw [hz, if_pos (by simp)]
    · rw [List.getD_eq_getElem?_getD, List.getElem?_set_ne (Ne.symm e), ← List.getD_eq_getElem?_getD, hs']
      have : decide (((i : Nat) : Int) = ((k : Nat) : Int)) = false := decide_eq_false (by omega)
      show _ = if (decide (((i : Nat) : Int) = ((k : Nat) : Int)) || bad ((i : Nat) : Int)) = true then none else some (recW g l epoch ((i : Nat) : Int))
      rw [this, Bool.false_or]
  · unfold saysW
    rw [if_neg hs]
    exact saysR_out hs
theorem log18_who : ∀ s : Nat, s < 14 → (match whoM g17 (s : Int) log18 0 with
    | some (i, k) => decide (i < log18.length ∧ 0 ≤ k ∧ k.toNat < (log18.getD i tz).images.length + 1)
    | none => true) = true := by decide +kernel
theorem log18_okR : ∀ s : Nat, s < 14 → okR g17 (recW g17 log18 0 (s : Int)) = true := by decide +kernel
theorem log18_ok : LogOk g17 log18 0 where
  len := by decide
  img := by decide
  who := fun s i k hs h => by
    obtain ⟨n, rfl⟩ := Int.eq_ofNat_of_zero_le hs.1
    have := log18_who n (Int.ofNat_lt.1 hs.2)
    rw [h] at this
    exact of_decide_eq_true this
  ok := fun s hs => by
    obtain ⟨n, rfl⟩ := Int.eq_ofNat_of_zero_le hs.1
    exact log18_okR n (Int.ofNat_lt.1 hs.2)
theorem scan18_a : scanP g17 a17 (saysW g17 log18 0 fun s => decide (s = ((1 : Nat) : Int)) || false) (saysW g17 log18 0 fun _ => false) = (log18, [⟨2, cellB g17 (recW g17 log18 0 1) 0 1⟩], 0) := by kernel_rfl
theorem scan18_b : scanP g17 a17 (saysW g17 log18 0 fun s => decide (s = ((1 : Nat) : Int)) || false) (saysW g17 log18 0 fun s => decide (s = ((1 : Nat) : Int)) || false) = ([], [], 12) := by kernel_rfl
end Go.Proofs.YteecmgonbdbhdaaDoor.A
end

/-
casematelaw18: two transactions, and one copy gone.
-/
section
namespace Go.Proofs.YteecmgonbdbhdaaDoor.A
open Go.RowKit

theorem RdL.split {c : Ctx} : ∀ {l m : List AV} {xs : List Value}, RdL (l ++ m) c xs → ∃ a b, xs = a ++ b ∧ RdL l c a ∧ RdL m c b
  | [], m, xs, h => ⟨[], xs, rfl, by simp only [RdL], h⟩
  | x :: l, m, xs, h => by
    simp only [List.cons_append, RdL] at h
    obtain ⟨y, ys, rfl, h1, h2⟩ := h
    obtain ⟨a, b, rfl, h3, h4⟩ := RdL.split h2
    exact ⟨y :: a, b, rfl, by simp only [RdL]; exact ⟨y, a, rfl, h1, h3⟩, h4⟩
theorem SubLL.len : ∀ {es fs : List (List AV)}, SubLL es fs → es.length = fs.length
  | [], [], _ => rfl
  | _ :: _, _ :: _, h => by simp [SubLL.len h.2]
  | [], _ :: _, h => h.elim
  | _ :: _, [], h => h.elim
theorem SubLL.flat : ∀ {es fs : List (List AV)} {c : Ctx} {xs : List Value}, SubLL es fs → RdL es.flatten c xs → RdL fs.flatten c xs
  | [], [], _, _, _, h => h
  | a :: r, b :: s, c, xs, h, hr => by
    rw [List.flatten_cons] at hr ⊢
    obtain ⟨x1, x2, rfl, h1, h2⟩ := RdL.split hr
    exact RdL.append (h.1.rdl h1) (SubLL.flat h.2 h2)
  | [], _ :: _, _, _, h, _ => h.elim
  | _ :: _, [], _, _, h, _ => h.elim
theorem SubLL.sz : ∀ {es fs : List (List AV)} {sz : Nat}, SubLL es fs → (∀ e ∈ es, e.length = sz) → ∀ e ∈ fs, e.length = sz
  | [], [], _, _, _ => by simp
  | a :: r, b :: s, sz, h, hs => by
    intro e he
    rcases List.mem_cons.1 he with rfl | he
    · rw [← h.1.len]; exact hs a (by simp)
    · exact SubLL.sz h.2 (fun e he => hs e (List.mem_cons_of_mem _ he)) e he
  | [], _ :: _, _, h, _ => h.elim
  | _ :: _, [], _, h, _ => h.elim
def ABSub : AB → AB → Prop
  | .row t sz es, .row t' sz' es' => t = t' ∧ sz = sz' ∧ SubLL es es'
  | x, y => x = y
/-- A heap whose rows read as those of another. -/
def HSub : List AB → List AB → Prop
  | [], [] => True
  | x :: r, y :: s => ABSub x y ∧ HSub r s
  | _, _ => False
theorem HSub.len : ∀ {H H' : List AB}, HSub H H' → H.length = H'.length
  | [], [], _ => rfl
  | _ :: _, _ :: _, h => by simp [HSub.len h.2]
  | [], _ :: _, h => h.elim
  | _ :: _, [], h => h.elim
theorem HSub.get : ∀ {H H' : List AB} {k : Nat} {y : AB}, HSub H H' → H'[k]? = some y → ∃ x, H[k]? = some x ∧ ABSub x y
  | [], [], k, y, _, h => by simp at h
  | x :: r, y :: s, 0, z, h, hz => by
    simp at hz
    subst hz
    exact ⟨x, by simp, h.1⟩
  | x :: r, y :: s, k + 1, z, h, hz => by
    obtain ⟨w, h1, h2⟩ := HSub.get (k := k) h.2 (by simpa using hz)
    exact ⟨w, by simpa using h1, h2⟩
  | [], _ :: _, _, _, h, _ => h.elim
  | _ :: _, [], _, _, _, hz => by simp at hz
theorem ABSub.live : ∀ {x y : AB}, ABSub x y → x.live = y.live := by
  intro x y h
  cases x <;> cases y <;> simp only [ABSub] at h <;> first | rfl | cases h
theorem ABSub.blk {c : Ctx} {k : Nat} : ∀ {x y : AB}, ABSub x y → BlkOk c k x → BlkOk c k y
  | .row t sz es, .row t' sz' es', h, hb => by
    obtain ⟨rfl, rfl, h⟩ := h
    obtain ⟨h1, h2, h3, xs, h4, h5, h6⟩ := hb
    refine ⟨h1.trans h.len, h2, h.sz h3, xs, ?_, h.flat h5, h6⟩
    rw [← h.len]
    exact h4
  | .row _ _ _, .box _ _, h, _ => by cases h
  | .row _ _ _, .iter _ _, h, _ => by cases h
  | .row _ _ _, .dead, h, _ => by cases h
  | .box t cs, y, h, hb => by
    have h : AB.box t cs = y := h
    subst h
    exact hb
  | .iter a b, y, h, hb => by
    have h : AB.iter a b = y := h
    subst h
    exact hb
  | .dead, y, h, hb => by
    have h : AB.dead = y := h
    subst h
    exact hb
theorem HS.hsub {w0 : Fl} {M0 : Ms} {c : Ctx} {H H' : List AB} (hs : HS w0 M0 c H) (h : HSub H H') : HS w0 M0 c H' := by
  refine ⟨hs.low, hs.base, hs.dom.trans h.len, hs.foreign, hs.lt, fun k y hy => ?_, fun k y g hy hl ho => ?_, fun j k y z g hj hk hy hz ho ho' => ?_⟩
  · obtain ⟨x, h1, h2⟩ := h.get hy
    exact h2.blk (hs.blk k x h1)
  · obtain ⟨x, h1, h2⟩ := h.get hy
    exact hs.own k x g h1 (h2.live.trans hl) ho
  · obtain ⟨x1, h1, h2⟩ := h.get hj
    obtain ⟨x2, h3, h4⟩ := h.get hk
    exact hs.dis j k x1 x2 g h1 h3 (h2.live.trans hy) (h4.live.trans hz) ho ho'
theorem ACalls.hsub {P : Program} {q : Bool} {f : FuncId} {args : List AV} {H : List AB} {k : AV → List AB → Prop} (H' : List AB) (hs : HSub H H') (h : ACalls P q f args H' k) : ACalls P q f args H k :=
  ⟨h.go, fun w0 M0 c us hs0 hr => h.calls w0 M0 c us (hs0.hsub hs) hr⟩
theorem written_len (g : Geo) (l : List Tx) (epoch copy : Int) (n : Nat) : (writtenM g l epoch copy n).length = n := by simp [writtenM]
theorem written_short {g : Geo} {l : List Tx} {epoch : Int} (h : LogOk g l epoch) (copy : Int) : ∀ z ∈ writtenM g l epoch copy g.sl.toNat, z.bytes.length ≤ 100000 := by
  intro z hz
  unfold writtenM at hz
  obtain ⟨s, hs, rfl⟩ := List.mem_map.1 hz
  have hs := List.mem_range.1 hs
  exact cellB_short (h.ok s (by omega)) copy s
theorem lt34 {m : Nat} (h : Nat.ble 5 m = true) : ∀ z ∈ [3, 4], z < m := fun z hz => by
  have := Nat.le_of_ble_eq_true h
  simp at hz
  omega
theorem SubLL.refl : ∀ l, SubLL l l
  | [] => trivial
  | _ :: l => ⟨SubL.refl _, SubLL.refl l⟩
theorem SubLL.set {a b : List AV} (h : SubL a b) : ∀ {l m : List (List AV)} (k : Nat), SubLL l m → SubLL (l.set k a) (m.set k b)
  | [], [], _, h => h
  | _ :: _, _ :: _, 0, h2 => ⟨h, h2.2⟩
  | _ :: _, _ :: _, k + 1, h2 => ⟨h2.1, SubLL.set h k h2.2⟩
  | [], _ :: _, _, h => h.elim
  | _ :: _, [], _, h => h.elim
theorem bad_sub (X : List Gt) (k : Nat) (e : Int) : SubLL ((X.map gotC).set k [.v (.int .i64 e), .v (.slice none 0 0)]) ((X.set k ⟨e, []⟩).map gotC) := by
  rw [List.map_set]
  exact SubLL.set (a := [.v (.int .i64 e), .v (.slice none 0 0)]) (b := gotC ⟨e, []⟩) ⟨fun _ _ h => h, nil_sl _ _, trivial⟩ k (SubLL.refl _)
set_option maxRecDepth 100000 in
theorem wakes18_fn : Fn Tryd.prog 38 [] fun r => r = .v (.bool true) := by
  have s1 := some_fn 0 0 0 0 0
  rw [show someG 0 0 0 0 0 = g17 from rfl] at s1
  have s2 : Fn Tryd.prog 48 [.ag (geoC g17), .v (.string ⟨#[]⟩)] fun r => r = .ag (anC a17) := first_fn g17 ⟨#[]⟩ (by decide)
  have hA : anOk g17 a17 = true := firstA_ok (by decide) lab_nil
  have w1 := written_fno g17 log18 0 (by decide) log18_ok
  have fX := saysF_W (g := g17) (l := log18) (epoch := 0) (by decide) log18_ok (copy := 0) (.inl rfl)
  have fY := saysF_W (g := g17) (l := log18) (epoch := 0) (by decide) log18_ok (copy := 1) (.inr rfl)
  have lX : (writtenM g17 log18 0 0 g17.sl.toNat).length = 14 := written_len _ _ _ _ _
  have lY : (writtenM g17 log18 0 1 g17.sl.toNat).length = 14 := written_len _ _ _ _ _
  have bX := written_short log18_ok 0
  have bY := written_short log18_ok 1
  rw [show g17.sl.toNat = 14 from rfl] at *
  generalize writtenM g17 log18 0 0 14 = X at *
  generalize writtenM g17 log18 0 1 14 = Y at *
  have hbad : ∀ c, saysR g17 ⟨6, []⟩ c ((1 : Nat) : Int) = none := fun c => says_err (by decide)
  have fX1 := saysF_set (z := ⟨6, []⟩) (k := 1) fX (by rw [lX]; decide) (hbad 0)
  have fY1 := saysF_set (z := ⟨6, []⟩) (k := 1) fY (by rw [lY]; decide) (hbad 1)
  have lX1 : (X.set 1 ⟨6, []⟩).length = 14 := by rw [List.length_set, lX]
  have lY1 : (Y.set 1 ⟨6, []⟩).length = 14 := by rw [List.length_set, lY]
  have hset : ∀ Z : List Gt, (∀ z ∈ Z, z.bytes.length ≤ 100000) → ∀ z ∈ Z.set 1 ⟨6, []⟩, z.bytes.length ≤ 100000 := fun Z hZ z hz => by
    rcases List.mem_or_eq_of_mem_set hz with h | rfl
    · exact hZ z h
    · exact Nat.zero_le _
  have hG : (okG g17 && anOk g17 a17) = true := by rw [hA]; rfl
  have v1 : scanA g17 a17 (X.set 1 ⟨6, []⟩) Y = (log18, [⟨2, cellB g17 (recW g17 log18 0 1) 0 1⟩], 0) := by
    unfold scanA
    rw [if_pos hG, if_pos (by rw [lX1, lY]; decide), scanM_P, fX1, fY, scan18_a]
  have v2 : scanA g17 a17 (X.set 1 ⟨6, []⟩) (Y.set 1 ⟨6, []⟩) = ([], [], 12) := by
    unfold scanA
    rw [if_pos hG, if_pos (by rw [lX1, lY1]; decide), scanM_P, fX1, fY1, scan18_b]
  have c1 := scanO_fn g17 a17 (X.set 1 ⟨6, []⟩) Y (by decide) (by decide) (hset X bX) bY
  have c2 := scanO_fn g17 a17 (X.set 1 ⟨6, []⟩) (Y.set 1 ⟨6, []⟩) (by decide) (by decide) (hset X bX) (hset Y bY)
  rw [v1, lX1, lY] at c1
  rw [v2, lX1, lY1] at c2
  dsimp only at c1 c2
  have t1 := txns_fn log18 log18 (by decide) (by decide)
  rw [decide_eq_true rfl] at t1
  refine Fn.of tys_ok Tryd.func38 rfl rfl (Nat.le_of_ble_eq_true rfl) ?_
  conv => whnf
  refine Fn.closed (s1) rfl ?_
  rintro _ rfl
  conv => whnf
  refine Fn.closed (s2) rfl ?_
  rintro _ rfl
  conv => whnf
  refine ACalls.shut (log18_fn).go ?_
  conv => whnf
  repeat' (refine And.intro (by first | rfl | omega | simp) ?_; conv => whnf)
  refine ACalls.sub _ ?_ (Fn.closed (log18_fn) rfl ?_)
  · repeat' (first | exact trivial | exact fun _ _ h => h | exact nil_sl _ _ | exact row_sub (f := fun x : Int => [AV.v (.int .i64 x)]) [0, 1] rfl rfl | refine And.intro ?_ ?_ | refine ag_sub ?_)
  rintro _ rfl
  conv => whnf
  refine FnO.call (w1) rfl ?_
  rintro _ _ ⟨rfl, rfl⟩
  conv => whnf
  refine ⟨by omega, ?_⟩
  conv => whnf
  have gX : (X.map gotC).getD (Int.toNat 1) [] = gotC (X.getD 1 gz) := map_getD (by rw [lX]; decide)
  have gY : (Y.map gotC).getD (Int.toNat 1) [] = gotC (Y.getD 1 gz) := map_getD (by rw [lY]; decide)
  refine And.intro ⟨rfl, by rw [List.length_map, lX], by decide⟩ ?_
  conv => whnf
  rw [gX]
  conv => whnf
  refine ACalls.hsub [.box 23 (geoC g17), .box 26 (anC a17), .dead, .row 30 2 ((X.set 1 ⟨6, []⟩).map gotC), .row 30 2 (Y.map gotC)] (And.intro rfl (And.intro rfl (And.intro rfl (And.intro (And.intro rfl (And.intro rfl (bad_sub X 1 6))) (And.intro (And.intro rfl (And.intro rfl (SubLL.refl _))) trivial))))) ?_
  refine ACalls.frame [3, 4] c1 rfl rfl rfl rfl (by decide) (lt34 rfl) ⟨rfl, rfl, trivial⟩ ?_
  rintro _ _ ⟨rfl, rfl⟩
  conv => whnf
  refine ⟨by omega, ?_⟩
  conv => whnf
  refine And.intro ⟨rfl, by rw [List.length_map, lY], by decide⟩ ?_
  conv => whnf
  rw [gY]
  conv => whnf
  refine ACalls.hsub [.box 23 (geoC g17), .box 26 (anC a17), .dead, .row 30 2 ((X.set 1 ⟨6, []⟩).map gotC), .row 30 2 ((Y.set 1 ⟨6, []⟩).map gotC)] (And.intro rfl (And.intro rfl (And.intro rfl (And.intro (And.intro rfl (And.intro rfl (SubLL.refl _))) (And.intro (And.intro rfl (And.intro rfl (bad_sub Y 1 6))) trivial))))) ?_
  refine ACalls.frame [3, 4] c2 rfl rfl rfl rfl (by decide) (lt34 rfl) ⟨rfl, rfl, trivial⟩ ?_
  rintro _ _ ⟨rfl, rfl⟩
  conv => whnf
  refine aDraw.of tys_ok mixed [0, 1, 2, 3, 4, 5, 6, 7, 8, 9, 10, 11, 12, 13, 14, 15, 16, 17, 18, 19, 20, 21, 22, 23, 24, 25, 26] (by kernel_rfl) ?_
  conv => whnf
  repeat' (first | (refine aSeq.go ?_; conv => whnf) | (refine boolI (fun _ => ?_) (fun _ => ?_) <;> conv => whnf) | (refine Fn.closed (t1) rfl ?_; rintro _ rfl; conv => whnf) | (refine And.intro (by first | omega | exact of_decide_eq_true rfl) ?_; conv => whnf) | fail)
  exact ⟨_, fun _ _ h => h, rfl⟩
end Go.Proofs.YteecmgonbdbhdaaDoor.A
end

/-
The law ScanRight.
-/
section
namespace Go.Proofs.YteecmgonbdbhdaaDoor.A
open Go.RowKit

/-- A right log: numbers, places, records one behind another. -/
def chainOk (g : Geo) : List Tx → Int → Int → Prop
  | [], _, _ => True
  | t :: r, seq, pos => (t.seq = seq ∧ t.pos = pos ∧ t.n = t.images.length + 1 ∧ 2 ≤ t.n) ∧ chainOk g r (seq + 1) ((pos + t.n).tmod g.sl)
def usedM : List Tx → Int
  | [] => 0
  | t :: r => t.n + usedM r
def posM (g : Geo) : List Tx → Int → Int
  | [], pos => pos
  | t :: r, pos => posM g r ((pos + t.n).tmod g.sl)
theorem chain_app (g : Geo) : ∀ (l : List Tx) (seq pos : Int) (t : Tx), chainOk g l seq pos → (t.seq = seq + l.length ∧ t.pos = posM g l pos ∧ t.n = t.images.length + 1 ∧ 2 ≤ t.n) → chainOk g (l ++ [t]) seq pos
  | [], seq, pos, t, _, h => ⟨⟨by have := h.1; simpa using this, h.2.1, h.2.2.1, h.2.2.2⟩, trivial⟩
  | x :: r, seq, pos, t, h, ht => by
    refine ⟨h.1, chain_app g r (seq + 1) _ t h.2 ⟨?_, ht.2⟩⟩
    rw [ht.1]
    simp only [List.length_cons]
    omega
theorem used_app : ∀ (l : List Tx) (t : Tx), usedM (l ++ [t]) = usedM l + t.n
  | [], t => by simp [usedM]
  | x :: r, t => by simp only [List.cons_append, usedM, used_app r t]; omega
theorem pos_app (g : Geo) : ∀ (l : List Tx) (pos : Int) (t : Tx), posM g (l ++ [t]) pos = ((posM g l pos) + t.n).tmod g.sl
  | [], pos, t => rfl
  | x :: r, pos, t => by simp only [List.cons_append, posM]; exact pos_app g r _ t
/-- A transaction that is found has one image less than records. -/
theorem gather_imgs {g : Geo} {a : An} {seq left n : Int} {look : Int → Rc × Int × List Wr} (hlook : ∀ i, 1 ≤ i → i < n → (look i).2.1 = 1 → okR g (look i).1 = true ∧ isOne (look i).1 a seq i n left = true) : ∀ (f : Nat) (k : Int) (r : Rc) (im : List Img) (w : List Wr), 1 ≤ k → k + f = n → okR g r = true → r.at_ = k - 1 → r.of_ = n → r.kind ≠ 0 → (im.length : Int) = k - 1 → (gatherM look f k r im w).1 = 1 → ((gatherM look f k r im w).2.1.length : Int) + 1 = n
  | 0, k, r, im, w, hk, hn, hr, ha, ho, h0, hi, _ => by
    have hk1 : r.kind ≠ 1 := by
      intro e
      unfold okR behOk at hr
      simp only [Bool.and_eq_true] at hr
      have h2 := hr.2
      rw [if_neg h0, if_pos e] at h2
      simp only [Bool.and_eq_true, inB_iff] at h2
      omega
    unfold gatherM
    simp only [if_neg hk1]
    omega
  | f + 1, k, r, im, w, hk, hn, hr, ha, ho, h0, hi, hG => by
    have hk1 : r.kind = 1 := by
      unfold okR behOk at hr
      simp only [Bool.and_eq_true] at hr
      have h2 := hr.2
      rw [if_neg h0] at h2
      split at h2
      · assumption
      · split at h2
        · simp only [Bool.and_eq_true, beq_iff_eq] at h2
          omega
        · cases h2
    unfold gatherM at hG ⊢
    simp only [if_pos hk1] at hG ⊢
    by_cases hq : (look k).2.1 ≠ 1
    · rw [if_pos hq] at hG
      exact absurd hG hq
    · rw [if_neg hq] at hG ⊢
      have hl := hlook k hk (by omega) (by omega)
      have h1 := one_of hl.1 hl.2
      have h2 := (of_decide_eq_true hl.2).1
      refine gather_imgs hlook f (k + 1) (look k).1 _ _ (by omega) (by omega) hl.1 (by omega) ?_ h2 ?_ hG
      · exact h1.2.2.2.2.2 (by omega)
      · rw [List.length_append]
        simp only [List.length_cons, List.length_nil]
        omega
theorem txnM_imgs {g : Geo} {a : An} {x y : List Gt} {pos seq left : Int} (hg : okG g = true) (hp : 0 ≤ pos ∧ pos < g.sl) (h : (txnM g a x y pos seq left).1 = 1) : ((txnM g a x y pos seq left).2.2.1.length : Int) + 1 = (txnM g a x y pos seq left).2.1 := by
  have r0 := recM_facts (a := a) (x := x) (y := y) (seq := seq) (left := left) (of_ := 0) (at_ := 0) hg hp (by omega)
  unfold txnM at h ⊢
  simp only at h ⊢
  rcases r0 with ⟨e1, ⟨e2, -, e3⟩, e4⟩ | ⟨e1, -, -⟩
  · rw [if_neg (by omega)] at h ⊢
    have hN := one_of e2 e3
    have h0 := (of_decide_eq_true e3).1
    by_cases hq : (gatherM (fun k => recM g a x y pos seq left k (recM g a x y pos seq left 0 0).1.of_) ((recM g a x y pos seq left 0 0).1.of_ - 1).toNat 1 (recM g a x y pos seq left 0 0).1 [] (recM g a x y pos seq left 0 0).2.2).1 ≠ 1
    · rw [if_pos hq] at h
      exact absurd h hq
    · rw [if_neg hq]
      refine gather_imgs (g := g) (a := a) (seq := seq) (left := left) (n := (recM g a x y pos seq left 0 0).1.of_) (look := fun k => recM g a x y pos seq left k (recM g a x y pos seq left 0 0).1.of_) (fun i h1 h2 h3 => ?_) _ 1 _ [] _ (by omega) (by omega) e2 (by omega) rfl h0 (by simp) (by omega)
      rcases recM_facts (a := a) (x := x) (y := y) (seq := seq) (left := left) (of_ := (recM g a x y pos seq left 0 0).1.of_) (at_ := i) hg hp (by omega) with ⟨_, ⟨q1, _, q2⟩, _⟩ | ⟨q, _⟩
      · exact ⟨q1, q2⟩
      · omega
  · rw [if_pos (by omega)] at h
    simp only at h
    omega
theorem scanL_right {g : Geo} {a : An} {x y : List Gt} (hg : okG g = true) : ∀ (f : Nat) (pos seq left : Int) (l : List Tx) (w : List Wr) {l' : List Tx} {w' : List Wr} {seq' : Int}, chainOk g l a.seq a.pos → pos = posM g l a.pos → seq = a.seq + l.length → usedM l + left = g.sl → 0 ≤ left → (0 ≤ pos ∧ pos < g.sl) → scanL g a x y f pos seq left l w = some (l', w', seq') →
    chainOk g l' a.seq a.pos ∧ seq' = a.seq + l'.length ∧ usedM l' ≤ g.sl
  | 0, pos, seq, left, l, w, l', w', seq', h1, h2, h3, h4, h5, h6, h => by
    unfold scanL at h
    injection h with h
    injection h with e1 h
    injection h with e2 e3
    subst e1
    subst e3
    exact ⟨h1, h3, by omega⟩
  | f + 1, pos, seq, left, l, w, l', w', seq', h1, h2, h3, h4, h5, h6, h => by
    unfold scanL at h
    have fin : some (l, w, seq) = some (l', w', seq') → chainOk g l' a.seq a.pos ∧ seq' = a.seq + l'.length ∧ usedM l' ≤ g.sl := fun h => by
      injection h with h
      injection h with e1 h
      injection h with e2 e3
      subst e1
      subst e3
      exact ⟨h1, h3, by omega⟩
    by_cases hc : 0 < left ∧ seq ≤ 4294967295
    · rw [if_pos hc] at h
      simp only at h
      have tf := txnM_facts (a := a) (x := x) (y := y) (seq := seq) (left := left) hg h6
      have ti := fun e => txnM_imgs (a := a) (x := x) (y := y) (seq := seq) (left := left) hg h6 e
      generalize txnM g a x y pos seq left = q at tf ti h
      obtain ⟨how, n, im, ws⟩ := q
      simp only at tf ti h
      rcases tf with ⟨rfl, t1, t2⟩ | tf
      · rw [if_neg (by decide), if_neg (by decide)] at h
        have hi := ti rfl
        obtain ⟨g1, g2, g3, g4, g5⟩ := okG_iff.1 hg
        have hm := Int.tmod_lt_of_pos (pos + n) (show 0 < g.sl by omega)
        have hm0 := Int.tmod_nonneg g.sl (show 0 ≤ pos + n by omega)
        refine scanL_right hg f _ _ _ _ _ (chain_app g l a.seq a.pos ⟨seq, pos, n, im⟩ h1 ⟨h3, h2, by simp only; omega, t1.1⟩) ?_ ?_ ?_ (by omega) ⟨hm0, hm⟩ h
        · rw [pos_app, ← h2]
        · rw [List.length_append]
          simp only [List.length_cons, List.length_nil]
          omega
        · rw [used_app]
          simp only
          omega
      · by_cases h3' : how = 3
        · rw [if_pos h3'] at h
          cases h
        · rw [if_neg h3', if_pos (by omega)] at h
          exact fin h
    · rw [if_neg hc] at h
      exact fin h
/-- What a scan finds is a right log. -/
theorem scanM_right {g : Geo} {a : An} {x y : List Gt} (hg : okG g = true) (ha : anOk g a = true) :
    ((scanM g a x y).2.2 = 0 ∧ chainOk g (scanM g a x y).1 a.seq a.pos ∧ usedM (scanM g a x y).1 ≤ g.sl ∧ a.last ≤ a.seq + (scanM g a x y).1.length - 1) ∨ ((scanM g a x y).2.2 ≠ 0 ∧ (scanM g a x y).1 = []) := by
  obtain ⟨g1, g2, g3, g4, g5⟩ := okG_iff.1 hg
  have hq := anOk_seq ha
  unfold scanM
  cases hR : scanL g a x y g.sl.toNat a.pos a.seq g.sl [] [] with
  | none => exact .inr ⟨by simp [finM, damaged], rfl⟩
  | some q =>
    obtain ⟨l, w, seq⟩ := q
    obtain ⟨c1, c2, c3⟩ := scanL_right hg _ _ _ _ _ _ (l' := l) (w' := w) (seq' := seq) (show chainOk g [] a.seq a.pos from trivial) rfl (by simp) (by simp [usedM]) (by omega) hq.2 hR
    by_cases hl : seq - 1 < a.last
    · rw [finM_pos hl]
      exact .inr ⟨by simp [damaged], rfl⟩
    · rw [finM_neg hl]
      exact .inl ⟨rfl, c1, c3, by simp only; omega⟩
theorem scanA_right {g : Geo} {a : An} {x y : List Gt} :
    ((scanA g a x y).2.2 = 0 ∧ (okG g = true ∧ anOk g a = true) ∧ chainOk g (scanA g a x y).1 a.seq a.pos ∧ usedM (scanA g a x y).1 ≤ g.sl ∧ a.last ≤ a.seq + (scanA g a x y).1.length - 1) ∨ ((scanA g a x y).2.2 ≠ 0 ∧ (scanA g a x y).1 = []) := by
  unfold scanA
  cases hA : okG g && anOk g a with
  | false => exact .inr ⟨by rw [if_neg Bool.false_ne_true]; decide, rfl⟩
  | true =>
    obtain ⟨hg, ha⟩ := Bool.and_eq_true_iff.1 hA
    rw [if_pos rfl]
    by_cases hx : (x.length : Int) = g.sl ∧ (y.length : Int) = g.sl
    · rw [if_pos hx]
      exact (scanM_right hg ha).imp (fun h => ⟨h.1, ⟨hg, ha⟩, h.2⟩) id
    · rw [if_neg hx]
      exact .inr ⟨by decide, rfl⟩
theorem chain_used {g : Geo} : ∀ {l : List Tx} {seq pos : Int}, chainOk g l seq pos → 2 * (l.length : Int) ≤ usedM l
  | [], _, _, _ => by simp [usedM]
  | t :: r, seq, pos, h => by
    have := chain_used h.2
    have := h.1.2.2.2
    simp only [List.length_cons, usedM]
    omega
set_option maxRecDepth 100000 in
theorem sright_fn (g : Geo) (a : An) (x y : List Gt) : Fn Tryd.prog 10 [.ag (geoC g), .ag (anC a), gotsA x, gotsA y] fun r => r = .v (.bool true) := by
  have hw := wakes18_fn
  refine Fn.of tys_ok Tryd.func10 rfl rfl (Nat.le_of_ble_eq_true rfl) ?_
  conv => whnf
  refine Fn.closed (heavyA_fn a) rfl ?_
  rintro _ rfl
  conv => whnf
  refine boolI (fun t1 => ?_) (fun t1 => ?_) <;> (repeat rw [Int.toNat_natCast] at t1) <;> conv => whnf
  · exact ⟨_, fun _ _ h => h, rfl⟩
  obtain ⟨hh, hl⟩ := heavyA_no t1
  refine Fn.closed (heavyG_fn x) rfl ?_
  rintro _ rfl
  conv => whnf
  refine boolI (fun t2 => ?_) (fun t2 => ?_) <;> (repeat rw [Int.toNat_natCast] at t2) <;> conv => whnf
  · exact ⟨_, fun _ _ h => h, rfl⟩
  refine Fn.closed (heavyG_fn y) rfl ?_
  rintro _ rfl
  conv => whnf
  refine boolI (fun t3 => ?_) (fun t3 => ?_) <;> (repeat rw [Int.toNat_natCast] at t3) <;> conv => whnf
  · exact ⟨_, fun _ _ h => h, rfl⟩
  obtain ⟨hx1, hx2⟩ := heavyG_no t2
  obtain ⟨hy1, hy2⟩ := heavyG_no t3
  have sc := scan_fn g a x y (by omega) (by omega) (fun z hz => by have := hx2 z hz; omega) (fun z hz => by have := hy2 z hz; omega)
  have hS := scanA_right (g := g) (a := a) (x := x) (y := y)
  generalize scanA g a x y = S at sc hS
  obtain ⟨l, w, e⟩ := S
  dsimp only at sc hS
  rcases hS with ⟨rfl, ⟨hg, ha⟩, hC, hU, hL⟩ | ⟨he, rfl⟩
  · obtain ⟨g1, g2, g3, g4, g5⟩ := okG_iff.1 hg
    have hq := anOk_seq ha
    have hlen := chain_used hC
    refine Fn.closed (sc) rfl ?_
    rintro _ rfl
    conv => whnf
    refine aLoop.rule (Nat × Int × Int) (fun z => ([(4, .bp 0 0), (5, .bp 1 0), (9, txsA l), (12, .v (.int .i64 z.2.1)), (13, .v (.int .i64 z.2.2)), (14, .v (.int .i64 z.1))], [.box 23 (geoC g), .box 26 (anC a)]))
      (fun z => z.1 ≤ l.length ∧ chainOk g (l.drop z.1) (a.seq + z.1) z.2.1 ∧ z.2.2 + usedM (l.drop z.1) = usedM l ∧ (0 ≤ z.2.1 ∧ z.2.1 < g.sl) ∧ 0 ≤ z.2.2)
      (fun z => l.length - z.1) (0, a.pos, 0) ⟨Nat.zero_le _, by simpa using hC, by simp, hq.2, Int.le_refl 0⟩ ⟨[], trivial, ⟨rfl, rfl, rfl, rfl, rfl, rfl, trivial⟩, ⟨rfl, rfl, trivial⟩, rfl, rfl, rfl⟩ ?_
    rintro ⟨k, pos, used⟩ ⟨b1, b2, b3, b4, b5⟩
    dsimp only at b1 b2 b3 b4 b5 ⊢
    conv => whnf
    refine boolI (fun c1 => ?_) (fun c1 => ?_) <;> (repeat rw [Int.toNat_natCast] at c1) <;> conv => whnf
    · have hd : l.drop k = l.getD k ⟨0, 0, 0, []⟩ :: l.drop (k + 1) := by
        rw [List.drop_eq_getElem_cons c1, List.getD_eq_getElem?_getD, List.getElem?_eq_getElem c1]
        rfl
      rw [hd] at b2 b3
      obtain ⟨⟨e1, e2, e3, e4⟩, b2⟩ := b2
      simp only [usedM] at b3
      have hr := chain_used b2
      have w1 : IntKind.i64.wrap (a.seq + k) = a.seq + k := by rw [IntKind.wrap_i64]; omega
      have w2 : IntKind.i64.wrap (((l.getD k ⟨0, 0, 0, []⟩).images.length : Int) + 1) = (l.getD k ⟨0, 0, 0, []⟩).images.length + 1 := by rw [IntKind.wrap_i64]; omega
      have w3 : IntKind.i64.wrap (pos + (l.getD k ⟨0, 0, 0, []⟩).n) = pos + (l.getD k ⟨0, 0, 0, []⟩).n := by rw [IntKind.wrap_i64]; omega
      have w4 : IntKind.i64.wrap (used + (l.getD k ⟨0, 0, 0, []⟩).n) = used + (l.getD k ⟨0, 0, 0, []⟩).n := by rw [IntKind.wrap_i64]; omega
      have hm := Int.tmod_lt_of_pos (pos + (l.getD k ⟨0, 0, 0, []⟩).n) (show 0 < g.sl by omega)
      have hm0 := Int.tmod_nonneg g.sl (show 0 ≤ pos + (l.getD k ⟨0, 0, 0, []⟩).n by omega)
      refine aDraw.of tys_ok mixed [0, 1, 2, 3, 4, 5, 6, 7, 8, 9, 10, 11, 12, 13, 14, 15, 16, 17, 18, 19, 20, 21, 22, 23, 24, 25, 26, 27, 28, 29, 30, 31, 32, 33, 34, 35, 36, 37, 38, 39, 40, 41] (by kernel_rfl) ?_
      conv => whnf
      refine ⟨by omega, ?_⟩
      conv => whnf
      rw [w1]
      conv => whnf
      refine boolI (fun d1 => ?_) (fun d1 => ?_) <;> (repeat rw [Int.toNat_natCast] at d1) <;> conv => whnf
      · exact absurd e1 d1
      refine ⟨by omega, ?_⟩
      conv => whnf
      refine boolI (fun d2 => ?_) (fun d2 => ?_) <;> (repeat rw [Int.toNat_natCast] at d2) <;> conv => whnf
      · exact absurd e2 d2
      refine ⟨by omega, ?_⟩
      conv => whnf
      refine ⟨by omega, ?_⟩
      conv => whnf
      rw [Int.toNat_natCast, w2]
      conv => whnf
      refine boolI (fun d3 => ?_) (fun d3 => ?_) <;> (repeat rw [Int.toNat_natCast] at d3) <;> conv => whnf
      · exact absurd e3 d3
      refine ⟨by omega, ?_⟩
      conv => whnf
      refine boolI (fun d4 => ?_) (fun d4 => ?_) <;> (repeat rw [Int.toNat_natCast] at d4) <;> conv => whnf
      · exfalso; omega
      refine aDraw.of tys_ok mixed [0, 1, 2, 3, 4, 5, 6, 7, 8, 9, 10, 11, 12, 13, 14, 15, 16, 17, 18] (by kernel_rfl) ?_
      conv => whnf
      repeat' (refine And.intro (by omega) ?_; conv => whnf)
      rw [Int.toNat_natCast, w3, w4]
      refine ⟨(k + 1, (pos + (l.getD k ⟨0, 0, 0, []⟩).n).tmod g.sl, used + (l.getD k ⟨0, 0, 0, []⟩).n), ⟨by omega, ?_, by dsimp only; omega, ⟨hm0, hm⟩, by dsimp only; omega⟩, by dsimp only; omega, [], trivial, ⟨rfl, rfl, rfl, rfl, rfl, wsucc (by omega), trivial⟩, ⟨rfl, rfl, trivial⟩, rfl, rfl, rfl⟩
      rw [show a.seq + (((k + 1 : Nat)) : Int) = a.seq + (k : Int) + 1 by omega]
      exact b2
    · have ek : k = l.length := by omega
      subst ek
      rw [List.drop_length] at b3
      simp only [usedM] at b3
      have w5 : IntKind.i64.wrap (a.seq + l.length) = a.seq + l.length := by rw [IntKind.wrap_i64]; omega
      have w6 : IntKind.i64.wrap (a.seq + l.length - 1) = a.seq + l.length - 1 := by rw [IntKind.wrap_i64]; omega
      refine boolI (fun f1 => ?_) (fun f1 => ?_) <;> (repeat rw [Int.toNat_natCast] at f1) <;> conv => whnf
      · rw [w5, w6]
        conv => whnf
        refine boolI (fun f2 => ?_) (fun f2 => ?_) <;> (repeat rw [Int.toNat_natCast] at f2) <;> conv => whnf
        · repeat' (first | (refine aSeq.go ?_; conv => whnf) | (refine boolI (fun _ => ?_) (fun _ => ?_) <;> conv => whnf) | (refine Fn.closed (hw) rfl ?_; rintro _ rfl; conv => whnf) | (refine And.intro (by first | omega | exact of_decide_eq_true rfl) ?_; conv => whnf) | fail)
          exact ⟨_, fun _ _ h => h, rfl⟩
        · exfalso; omega
      · exfalso; omega
  · refine Fn.closed (sc) rfl ?_
    rintro _ rfl
    conv => whnf
    refine boolI (fun t4 => ?_) (fun t4 => ?_) <;> (repeat rw [Int.toNat_natCast] at t4) <;> conv => whnf
    · repeat' (first | (refine aSeq.go ?_; conv => whnf) | (refine boolI (fun _ => ?_) (fun _ => ?_) <;> conv => whnf) | (refine Fn.closed (hw) rfl ?_; rintro _ rfl; conv => whnf) | (refine And.intro (by first | omega | exact of_decide_eq_true rfl) ?_; conv => whnf) | fail)
      exact ⟨_, fun _ _ h => h, rfl⟩
    · exact absurd t4 he
end Go.Proofs.YteecmgonbdbhdaaDoor.A
end
