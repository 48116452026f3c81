/-
table.Read.
-/
import Derived.Test.YtpknhpfbinplgaaRcEqual
namespace Go.Proofs.Ytpknhpfbinplgaa
open Go.RowKit
attribute [local go_sem ↓] Go.wp_at_zero Go.wp_at_succ

/-- The entry that nine bytes are. -/
def entOf (b : List UInt8) : Ent := ⟨(nums [4, 4, 1] b).getD 0 0, (nums [4, 4, 1] b).getD 1 0, (nums [4, 4, 1] b).getD 2 0 == 1⟩
def entsOf : Nat → List UInt8 → List Ent
  | 0, _ => []
  | n + 1, b => entOf b :: entsOf n (b.drop 9)
theorem entsOf_step : ∀ (n : Nat) (b : List UInt8), entsOf (n + 1) b = entsOf n b ++ [entOf (b.drop (9 * n))]
  | 0, b => by simp [entsOf]
  | n + 1, b => by
    rw [entsOf, entsOf_step n (b.drop 9), entsOf, List.drop_drop]
    simp only [List.cons_append]
    rw [show 9 + 9 * n = 9 * (n + 1) by omega]
theorem entsOf_len : ∀ (n : Nat) (b : List UInt8), (entsOf n b).length = n
  | 0, _ => rfl
  | n + 1, b => by simp [entsOf, entsOf_len n]
/-- The table that bytes are. -/
def readT (g : Geo) (b : List UInt8) : Option (List Ent) := if okT g (entsOf (g.d + 1).toNat b) = true ∧ tblB (entsOf (g.d + 1).toNat b) = b then some (entsOf (g.d + 1).toNat b) else none
theorem readT_short {g : Geo} {b : List UInt8} (h : b.length < 9 * (g.d + 1).toNat) : readT g b = none := by
  unfold readT
  rw [if_neg]
  rintro ⟨-, h2⟩
  have := congrArg List.length h2
  rw [tblB_len, entsOf_len] at this
  omega
theorem OwR.int3 {w : World} {M : Ms} {base : Nat} {e : TypeId} {v : Value} {x y z : Int} (h : OwR w M base e v [x, y, z]) : ∃ B c, v = .slice (some ⟨B, 0, none⟩) 3 c ∧ base ≤ B ∧ w.cell? ⟨B, 0, none⟩ = some (.int .i64 x) ∧ w.cell? ⟨B, 1, none⟩ = some (.int .i64 y) ∧ w.cell? ⟨B, 2, none⟩ = some (.int .i64 z) := by
  obtain ⟨B, c, cs, rfl, hb, -, -, he, hc⟩ := h.at_ (k := 0) (by simp)
  obtain ⟨B1, c1, cs1, e1, -, -, -, he1, hc1⟩ := h.at_ (k := 1) (by simp)
  obtain ⟨B2, c2, cs2, e2, -, -, -, he2, hc2⟩ := h.at_ (k := 2) (by simp)
  cases e1; cases e2
  have he : cs = [.int .i64 x] := he
  have he1 : cs1 = [.int .i64 y] := he1
  have he2 : cs2 = [.int .i64 z] := he2
  subst he he1 he2
  exact ⟨B, c, rfl, hb, hc 0 _ rfl, hc1 0 _ rfl, hc2 0 _ rfl⟩
theorem nums3 (b : List UInt8) : ∃ x y z, nums [4, 4, 1] b = [x, y, z] ∧ entOf b = ⟨x, y, z == 1⟩ := ⟨_, _, _, rfl, rfl⟩
instance (s : Int) : Decidable (szOk s) := inferInstanceAs (Decidable (s = 1 ∨ s = 2 ∨ s = 4))
def TreadP (w' : World) (base : Nat) (g : Geo) (b : List UInt8) (e : Ending) : Prop :=
  (okG g = false ∧ e = .returned (.tuple #[.agg #[.slice none 0 0], .int .i64 1])) ∨
  (okG g = true ∧ readT g b = none ∧ e = .returned (.tuple #[.agg #[.slice none 0 0], .int .i64 4])) ∨
  (okG g = true ∧ ∃ v l, readT g b = some l ∧ e = .returned (.tuple #[.agg #[v], .int .i64 0]) ∧ OwR w' noM base 110 v l)

set_option maxRecDepth 100000 in
set_option maxHeartbeats 8000000 in
theorem tread_any (g : Geo) (v : Value) (b : List UInt8) (w : World) (Mi : Ms) (h : SlR w Mi v b) (hl : b.length ≤ 100000) :
    Calls Try.prog 49 #[gv g, v] w fun e w' => TreadP w' w.heap.size g b e ∧ Below w.heap.size w w' := by
  obtain ⟨a, c, rfl⟩ := h.form
  have hb1 := (Below.refl w.heap.size w).alloc (Nat.le_refl _) (.cells #[.int .i64 g.z, .int .i64 g.d, .int .i64 g.sp, .int .i64 g.sl, .int .i64 g.an] 23)
  have hb2 := hb1.alloc (by simp) (.cells #[.slice none 0 0] 89)
  have hG := (Blk.new w 23 #[.int .i64 g.z, .int .i64 g.d, .int .i64 g.sp, .int .i64 g.sl, .int .i64 g.an]).alloc (.cells #[.slice none 0 0] 89)
  have hR := Blk.new (w.alloc (.cells #[.int .i64 g.z, .int .i64 g.d, .int .i64 g.sp, .int .i64 g.sl, .int .i64 g.an] 23)) 89 #[.slice none 0 0]
  simp only [World.size_alloc] at hR
  have HB := Lib.hid hb2
  have HG := Lib.hid hG
  have HR := Lib.hid hR
  have H := Lib.hid h.bare
  have hck := Lib.hid (gcheck_any g ((w.alloc (.cells #[.int .i64 g.z, .int .i64 g.d, .int .i64 g.sp, .int .i64 g.sl, .int .i64 g.an] 23)).alloc (.cells #[.slice none 0 0] 89)))
  unfold gv at hck ⊢
  clear hb1 hb2 hG hR h
  cases hok : okG g with
  | false =>
    have hE := Lib.hid hok
    rw [hok] at hck
    unfold errV at hck
    clear hok
    go_enter Try.func49, Try.ntmps49
    go_wp2_with fail
    ((with_reducible refine hck.out.mono ?_); rintro e w1 ⟨rfl, hB1⟩)
    obtain ⟨r1, r2, r3⟩ := (HR.out.below hB1).all
    have hx := ((HR.out.below hB1).set_ 0 (.slice none 0 0)).cell 0
    go_wp2
    refine bodyPost_ret (v := .tuple #[.agg #[.slice none 0 0], .int .i64 1]) (by simp [results, Try.results49, go_sem, hx]) rfl ?_
    exact ⟨.inl ⟨hE.out, rfl⟩, (HB.out.trans (hB1.mono HB.out.size)).setCell (p := ⟨w.heap.size + 1, 0, none⟩) (Nat.le_succ _) _⟩
  | true =>
    have hE := Lib.hid hok
    rw [hok] at hck
    unfold errV at hck
    obtain ⟨z, d, sp, sl, an⟩ := g
    obtain ⟨-, hd, -⟩ := okG_iff.1 hok
    obtain ⟨n, rfl⟩ : ∃ k : Nat, d = k := ⟨d.toNat, by simp only at hd; omega⟩
    have hk1 : (1 : Int) ≤ n := hd.1
    have hk2 : (n : Int) ≤ 4 := hd.2
    clear hd hok
    simp only at hck HB HG HR H ⊢
    go_enter Try.func49, Try.ntmps49
    go_wp2_with fail
    ((with_reducible refine hck.out.mono ?_); rintro e w1 ⟨rfl, hB1⟩)
    obtain ⟨g1, g2, g3⟩ := (HG.out.below hB1).all
    have hbA := (Below.refl w1.heap.size w1).alloc (Nat.le_refl _) (.cells #[.slice none 0 0] 89)
    have HBA := Lib.hid ((HB.out.trans (hB1.mono HB.out.size)).trans (hbA.mono (Nat.le_trans HB.out.size hB1.size)))
    have HGA := Lib.hid ((HG.out.below hB1).below hbA)
    have HRA := Lib.hid ((HR.out.below hB1).below hbA)
    have HQA := Lib.hid (Blk.new w1 89 #[.slice none 0 0])
    have HQ := Lib.hid (show w.heap.size + 1 < w1.heap.size from (HR.out.below hB1).lt)
    clear hB1 hbA hck HB HG HR
    go_wp2_with fail
    clear g1 g2 g3
    have hw0 : IntKind.i64.wrap ((n : Int) + 1) = n + 1 := by rw [IntKind.wrap_i64]; omega
    go_loopg [7, 21] (n + 1) (fun g s7 s21 wr => ∃ k : Nat, s21 = .int .i64 k ∧ k ≤ n + 1 ∧ n + 1 - k ≤ g ∧ Hid (9 * k ≤ b.length ∧ (∃ vE, Blk wr w1.heap.size 89 #[vE] ∧ OwR wr noM w.heap.size 110 vE (entsOf k b)) ∧ SlR wr noM s7 (b.drop (9 * k)) ∧
      Blk wr w.heap.size 23 #[.int .i64 z, .int .i64 n, .int .i64 sp, .int .i64 sl, .int .i64 an] ∧ Blk wr (w.heap.size + 1) 89 #[.slice none 0 0] ∧ Below w.heap.size w wr))
    case atStart => exact ⟨0, rfl, Nat.zero_le _, by omega, Lib.hid ⟨by omega, ⟨_, HQA.out, OwR.nil _ _ _ _⟩, by simpa using H.out.mono (Keep.below HBA.out), HGA.out, HRA.out, HBA.out⟩⟩
    case round =>
      obtain ⟨k, rfl, hkl, hg, hI⟩ := hrel
      obtain ⟨w0, rfl⟩ : ∃ w0, w0 = wr := ⟨_, rfl⟩
      obtain ⟨hT, ⟨vE, hQ, hoE⟩, hs7, hG, hR, hB⟩ := hI.out
      by_cases hlt : k < n + 1
      · have hlt' : (k : Int) < n + 1 := by omega
        obtain ⟨R, hR0⟩ : ∃ R, R = b.drop (9 * k) := ⟨_, rfl⟩
        rw [← hR0] at hs7
        have hRl : R.length = b.length - 9 * k := by rw [hR0, List.length_drop]
        obtain ⟨a7, c7, rfl⟩ := hs7.form
        have hbl := (Below.refl w0.heap.size w0).alloc (Nat.le_refl _) (.cells #[.int .i64 4, .int .i64 4, .int .i64 1] 3)
        have hun := Lib.hid (unrow_any _ _ R [4, 4, 1] _ noM noM (hs7.mono (Keep.below hbl)) ((OwR.litI w0 noM [4, 4, 1] (by simp)).sl (fun _ _ h => h)) (by decide) (by omega) (by simp))
        simp only [List.map_cons, List.map_nil, List.length_cons, List.length_nil, Nat.reduceAdd] at hun
        have HI := Lib.hid (And.intro hT (And.intro hQ (And.intro hoE (And.intro hG (And.intro hR hB)))))
        have HBL := Lib.hid hbl
        have HRe := Lib.hid (And.intro hR0 hRl)
        clear hT hQ hoE hs7 hG hR hB hI hbl hR0 hRl
        go_wp2_with fail
        ((with_reducible refine hun.out.mono ?_); rintro e w2 ⟨hU, hB2⟩)
        have HB2 := Lib.hid (HBL.out.trans (hB2.mono (by simp)))
        obtain ⟨iT, iQ, iE, iG, iR, iB⟩ := HI.out
        rcases hU with ⟨hfit, v1, v2, rfl, ho1, ho2⟩ | ⟨hfew, rfl⟩
        · obtain ⟨x, y, t, hn3, hent⟩ := nums3 R
          rw [hn3] at ho1
          obtain ⟨B, cB, rfl, hBB, y0, y1, y2⟩ := ho1.int3
          have q1 := (iQ.below HB2.out).cell 0
          have HX := Lib.hid (And.intro hfit (And.intro ho2 (And.intro hn3 hent)))
          clear hfit ho1 ho2 hn3 hent iT iQ iE iG iR iB hB2
          have hS := Lib.hid (show w2.drew.cell? ⟨w1.heap.size, 0, none⟩ = some vE ∧ w2.drew.cell? ⟨B, 0, none⟩ = some (.int .i64 x) ∧ w2.drew.cell? ⟨B, 1, none⟩ = some (.int .i64 y) ∧ w2.drew.cell? ⟨B, 2, none⟩ = some (.int .i64 t) from ⟨q1, y0, y1, y2⟩)
          clear q1 y0 y1 y2
          go_wp2_with fail
          refine rp_enter [1, 4, 7, 10] (fun W => W.cell? ⟨w1.heap.size, 0, none⟩ = some vE ∧ W.cell? ⟨B, 0, none⟩ = some (.int .i64 x) ∧ W.cell? ⟨B, 1, none⟩ = some (.int .i64 y) ∧ W.cell? ⟨B, 2, none⟩ = some (.int .i64 t)) (by kernel_rfl) ?_
          apply rp_pure 0 rfl (by kernel_rfl) (fun _ _ _ h => h) rfl
          · (intro W; go_simp; try rfl)
          · (go_simp; try rfl)
          apply rp_take 1 rfl (by kernel_rfl) (fun _ _ _ h => h) (hS.out) rfl
          · (rintro W ⟨s0, s1, s2, s3⟩; go_simp; try rfl)
          · (go_simp; try rfl)
          apply rp_pure 2 rfl (by kernel_rfl) (fun _ _ _ h => h) rfl
          · (intro W; go_simp; try rfl)
          · (go_simp; try rfl)
          apply rp_pure 3 rfl (by kernel_rfl) (fun _ _ _ h => h) rfl
          · (intro W; go_simp; try rfl)
          · (go_simp; try rfl)
          apply rp_take 4 rfl (by kernel_rfl) (fun _ _ _ h => h) (hS.out) rfl
          · (rintro W ⟨s0, s1, s2, s3⟩; go_simp; try rfl)
          · (go_simp; try rfl)
          apply rp_pure 5 rfl (by kernel_rfl) (fun _ _ _ h => h) rfl
          · (intro W; go_simp; try rfl)
          · (go_simp; try rfl)
          apply rp_pure 6 rfl (by kernel_rfl) (fun _ _ _ h => h) rfl
          · (intro W; go_simp; try rfl)
          · (go_simp; try rfl)
          apply rp_take 7 rfl (by kernel_rfl) (fun _ _ _ h => h) (hS.out) rfl
          · (rintro W ⟨s0, s1, s2, s3⟩; go_simp; try rfl)
          · (go_simp; try rfl)
          apply rp_pure 8 rfl (by kernel_rfl) (fun _ _ _ h => h) rfl
          · (intro W; go_simp; try rfl)
          · (go_simp; try rfl)
          apply rp_pure 9 rfl (by kernel_rfl) (fun _ _ _ h => h) rfl
          · (intro W; go_simp; try rfl)
          · (go_simp; try rfl)
          apply rp_take 10 rfl (by kernel_rfl) (fun _ _ _ h => h) (hS.out) rfl
          · (rintro W ⟨s0, s1, s2, s3⟩; go_simp; try rfl)
          · (go_simp; try rfl)
          apply rp_pure 11 rfl (by kernel_rfl) (fun _ _ _ h => h) rfl
          · (intro W; go_simp; try rfl)
          · (go_simp; try rfl)
          apply rp_pure 12 rfl (by kernel_rfl) (fun _ _ _ h => h) rfl
          · (intro W; go_simp; try rfl)
          · (go_simp; try rfl)
          refine rp_only 13 (by kernel_rfl) rfl (fun K hK => ?_)
          go_simp
          have hbA := (Below.refl w2.heap.size w2).alloc (Nat.le_refl _) (.cells #[.int .i64 x, .int .i64 y, .bool (t == 1)] 110)
          have hbD := hbA.drew
          have hS2 := Lib.hid (And.intro (below_cell hbD hS.out.1) (And.intro (below_cell hbD hS.out.2.1) (And.intro (below_cell hbD hS.out.2.2.1) (below_cell hbD hS.out.2.2.2))))
          obtain ⟨iT, iQ, iE, iG, iR, iB⟩ := HI.out
          have HBD := Lib.hid (HB2.out.trans (hbD.mono HB2.out.size))
          have O3 := Lib.hid (iE.below HBD.out)
          have HB3 := Lib.hid (iB.trans (HBD.out.mono iB.size))
          have hS3 := Lib.hid (show SlR (w2.alloc (.cells #[.int .i64 x, .int .i64 y, .bool (t == 1)] 110)).drew (fun b => noM b ∨ vE.ownBlock = some b) (.slice (some ⟨w2.heap.size, 0, none⟩) 1 1) [(⟨x, y, t == 1⟩ : Ent)] from
            SlR.one ((Blk.new w2 110 #[.int .i64 x, .int .i64 y, .bool (t == 1)]).drew) rfl (fun h' => h'.elim (fun h => h) (fun h => by have := iE.own_lt h; have := HB2.out.size; omega)))
          have hlk : (entsOf k b).length + 1 ≤ 1000000000 := by rw [entsOf_len]; omega
          clear iT iQ iE iG iR iB hbA hbD
          refine hK _ _ ⟨fun _ _ => hS2.out, ?_⟩; clear hK K
          refine rp_only 14 (by kernel_rfl) rfl (fun K hK => ?_)
          refine step_append_R (α := Ent) (M := noM) (base := w.heap.size) (l := entsOf k b) (m := [(⟨x, y, t == 1⟩ : Ent)]) rfl (by rfl) tyE (by rfl) O3.out (by rfl) hS3.out (by simpa using hlk) HB3.out.size ?_
          intro v4 w4 ho4 hg4 hat4
          obtain ⟨L4, hL4⟩ : ∃ L4, L4 = entsOf k b ++ [(⟨x, y, t == 1⟩ : Ent)] := ⟨_, rfl⟩
          rw [← hL4] at ho4
          have HL4 := Lib.hid hL4
          clear hL4
          obtain ⟨A4, C4, rfl⟩ := ho4.form
          have hgc : ∀ (bb o : Nat) (u : Value), (w2.alloc (.cells #[.int .i64 x, .int .i64 y, .bool (t == 1)] 110)).drew.cell? ⟨bb, o, none⟩ = some u → vE.ownBlock ≠ some bb → w4.cell? ⟨bb, o, none⟩ = some u := fun bb o u hc hne =>
            (World.cell?_of_block (a := ⟨bb, o, none⟩) (hg4.block bb (World.block_lt_of_cell? _ _ hc) (fun e => hne e.symm))).trans hc
          have hneq : vE.ownBlock ≠ some w1.heap.size := O3.out.ne_ (HI.out.2.1.below HBD.out) (by decide)
          have hneB : vE.ownBlock ≠ some B := fun e => by have := HI.out.2.2.1.own_lt e; simp at hBB; omega
          have hS4 := Lib.hid (And.intro (hgc _ _ _ hS2.out.1 hneq) (And.intro (hgc _ _ _ hS2.out.2.1 hneB) (And.intro (hgc _ _ _ hS2.out.2.2.1 hneB) (hgc _ _ _ hS2.out.2.2.2 hneB))))
          clear hgc hneq hneB
          refine hK _ _ ⟨fun _ _ => hS4.out, ?_⟩; clear hK K
          obtain ⟨iT, iQ, iE, iG, iR, iB⟩ := HI.out
          obtain ⟨xT, xo2, xn, xe⟩ := HX.out
          have hb40 : Below w.heap.size w w4 := HB3.out.grown hg4 HB3.out.size (fun b e => O3.out.own_ge e)
          have Q3 := iQ.below HBD.out
          have Q4 := Q3.grown hg4 (fun e => O3.out.ne_ Q3 (by decide) e.symm)
          have G3 := iG.below HBD.out
          have G4 := Lib.hid (G3.grown hg4 (fun e => O3.out.ne_ G3 (by decide) e.symm))
          have R3 := iR.below HBD.out
          have R4 := Lib.hid (R3.grown hg4 (fun e => O3.out.ne_ R3 (by decide) e.symm))
          have hbD := ((Below.refl w2.heap.size w2).alloc (Nat.le_refl _) (.cells #[.int .i64 x, .int .i64 y, .bool (t == 1)] 110)).drew
          have V4 := ((xo2.below hbD).keptP plU hg4 (iE.own_new (xo2.mono_base (by simp))))
          have V5 := Lib.hid (And.intro V4 (V4.ne_ Q4 (by decide)))
          have O4 := Lib.hid (And.intro ho4 (ho4.ne_ Q4 (by decide)))
          have HQ4 := Lib.hid Q4
          obtain ⟨q1, q2, q3⟩ := Q4.all
          have HN := Lib.hid (And.intro xT xe)
          have HB4 := Lib.hid (And.intro hb40 iB)
          clear iT iQ iE iG iR iB xT xo2 xn xe hb40 Q3 Q4 G3 R3 hbD V4 ho4 hg4 hat4 HX
          apply rp_pure 15 rfl (by kernel_rfl) (fun _ _ _ h => h) rfl
          · (intro W; go_simp; try rfl)
          · (go_simp; try rfl)
          refine rp_free 16 (by kernel_rfl) (by kernel_rfl) rfl (fun K hK => ?_)
          go_simp
          refine hK _ _ ?_; clear hK K
          clear q1 q2 q3
          refine rp_done (by kernel_rfl) ?_
          go_wp2
          go_roundg (n + 1 - (k + 1))
          case measure => omega
          case rel =>
            obtain ⟨iT, iQ, iE, iG, iR, iB⟩ := HI.out
            obtain ⟨xT, xe⟩ := HN.out
            have hq := HQ.out
            simp [tot] at xT
            refine ⟨k + 1, by go_num, by omega, by omega, Lib.hid ⟨?_, ⟨_, HQ4.out.set_ 0 _, ?_⟩, ?_, G4.out.far (by simp; omega) _, R4.out.far (by simp; omega) _, HB4.out.1.setCell (by simp; omega) _⟩⟩
            · have := HRe.out.2; omega
            · rw [entsOf_step, ← HRe.out.1, xe, ← HL4.out]
              exact O4.out.1.setP plE (p := ⟨w1.heap.size, 0, none⟩) O4.out.2 _
            · have := (V5.out.1.setP plU (p := ⟨w1.heap.size, 0, none⟩) V5.out.2 (.slice A4 L4.length C4)).sl (M := noM) (fun _ _ h => h)
              rw [HRe.out.1, List.drop_drop, show tot [4, 4, 1] = 9 from rfl, show 9 * k + 9 = 9 * (k + 1) by omega] at this
              exact this
        · have hno := Lib.hid (readT_short (g := ⟨z, n, sp, sl, an⟩) (b := b) (by
            have h1 := HRe.out.2
            have h2 := hfew
            simp [tot] at h2
            have : ((n : Int) + 1).toNat = n + 1 := by omega
            simp only [this]
            omega))
          have hR5 := iR.below HB2.out
          obtain ⟨r1, r2, r3⟩ := hR5.all
          have hx := (hR5.set_ 0 (.slice none 0 0)).cell 0
          have HB5 := Lib.hid (iB.trans (HB2.out.mono iB.size))
          clear iT iQ iE iG iR iB hR5 hB2 hfew
          go_wp2
          refine bodyPost_ret (v := .tuple #[.agg #[.slice none 0 0], .int .i64 4]) (by simp [results, Try.results49, go_sem, hx]) rfl ?_
          exact ⟨.inr (.inl ⟨hE.out, hno.out, rfl⟩), HB5.out.setCell (p := ⟨w.heap.size + 1, 0, none⟩) (Nat.le_succ _) _⟩
      · obtain rfl : k = n + 1 := by omega
        have hnn : (((n + 1 : Nat) : Int)) = (n : Int) + 1 := by omega
        have hRT : Hid (readT ⟨z, n, sp, sl, an⟩ b = if okT ⟨z, n, sp, sl, an⟩ (entsOf (n + 1) b) = true ∧ tblB (entsOf (n + 1) b) = b then some (entsOf (n + 1) b) else none) := Lib.hid (by
          have : ((n : Int) + 1).toNat = n + 1 := by omega
          simp only [readT, this])
        have hlen := entsOf_len (n + 1) b
        obtain ⟨L, hL⟩ : ∃ L, L = entsOf (n + 1) b := ⟨_, rfl⟩
        rw [← hL] at hRT hoE hlen
        have htb := Lib.hid (tbytes_any ⟨z, n, sp, sl, an⟩ vE L w0 noM (hoE.sl (fun _ _ h => h)) (by omega))
        unfold gv at htb
        simp only at htb
        obtain ⟨q1, q2, q3⟩ := hQ.all
        obtain ⟨g1, g2, g3⟩ := hG.all
        have HI := Lib.hid (And.intro hQ (And.intro hoE (And.intro hR hB)))
        clear hI hL hlen hT hQ hoE hs7 hG hR hB hnn
        go_wp2_with fail
        ((with_reducible refine htb.out.mono ?_); rintro e w2 ⟨hU, hB2⟩)
        obtain ⟨iQ, iE, iR, iB⟩ := HI.out
        have Q2 := iQ.below hB2
        have R2 := iR.below hB2
        have E2 := iE.below hB2
        have B2 := Lib.hid (iB.trans (hB2.mono iB.size))
        obtain ⟨r1, r2, r3⟩ := R2.all
        rcases hU with ⟨hok, vb, rfl, hob⟩ | ⟨hno, rfl⟩
        · have heq := Lib.hid (equal_any vb (.slice a b.length c) (tblB L) b w2 noM noM (hob.sl (fun _ _ h => h)) (H.out.mono (Keep.below B2.out)))
          obtain ⟨ab, cb, rfl⟩ := hob.form
          cases hd : decide (tblB L = b) with
          | false =>
            have hF := Lib.hid (show readT ⟨z, n, sp, sl, an⟩ b = none by rw [hRT.out, if_neg]; rintro ⟨-, h⟩; simp [h] at hd)
            rw [hd] at heq
            clear hd q1 q2 q3 g1 g2 g3 iQ iE iR iB Q2 E2 hB2 hok hob
            have hx := (R2.set_ 0 (.slice none 0 0)).cell 0
            clear R2
            go_wp2_with (go_at_call 40; go_must (with_reducible refine heq.out.mono ?_); rintro e w3 ⟨rfl, rfl⟩)
            refine bodyPost_ret (v := .tuple #[.agg #[.slice none 0 0], .int .i64 4]) (by simp [results, Try.results49, go_sem, hx]) rfl ?_
            exact ⟨.inr (.inl ⟨hE.out, hF.out, rfl⟩), B2.out.setCell (p := ⟨w.heap.size + 1, 0, none⟩) (Nat.le_succ _) _⟩
          | true =>
            have hF := Lib.hid (show readT ⟨z, n, sp, sl, an⟩ b = some L by rw [hRT.out, if_pos]; exact ⟨hok, by simpa using hd⟩)
            rw [hd] at heq
            have hne := Lib.hid (E2.ne_ R2 (by decide))
            have HE2 := Lib.hid E2
            obtain ⟨p1, p2, p3⟩ := Q2.all
            have hx := (R2.set_ 0 vE).cell 0
            obtain ⟨aE, cE, rfl⟩ := E2.form
            clear hd q1 q2 q3 g1 g2 g3 iQ iE iR iB Q2 E2 hB2 hok hob R2
            go_wp2_with (go_at_call 40; go_must (with_reducible refine heq.out.mono ?_); rintro e w3 ⟨rfl, rfl⟩)
            refine bodyPost_ret (v := .tuple #[.agg #[.slice aE L.length cE], .int .i64 0]) (by simp [results, Try.results49, go_sem, hx]) rfl ?_
            exact ⟨.inr (.inr ⟨hE.out, _, L, hF.out, rfl, HE2.out.setP plE (p := ⟨w.heap.size + 1, 0, none⟩) hne.out _⟩), B2.out.setCell (p := ⟨w.heap.size + 1, 0, none⟩) (Nat.le_succ _) _⟩
        · have hF := Lib.hid (show readT ⟨z, n, sp, sl, an⟩ b = none by rw [hRT.out, if_neg]; rintro ⟨h, -⟩; rw [hno] at h; cases h)
          have hx := (R2.set_ 0 (.slice none 0 0)).cell 0
          clear q1 q2 q3 g1 g2 g3 iQ iE iR iB Q2 E2 hB2 hno R2
          go_wp2
          refine bodyPost_ret (v := .tuple #[.agg #[.slice none 0 0], .int .i64 4]) (by simp [results, Try.results49, go_sem, hx]) rfl ?_
          exact ⟨.inr (.inl ⟨hE.out, hF.out, rfl⟩), B2.out.setCell (p := ⟨w.heap.size + 1, 0, none⟩) (Nat.le_succ _) _⟩
end Go.Proofs.Ytpknhpfbinplgaa
