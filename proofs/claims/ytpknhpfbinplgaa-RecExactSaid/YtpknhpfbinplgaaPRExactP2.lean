/-
Several texts in one.
-/
import Derived.Test.YtpknhpfbinplgaaPRExactP1

/-
table.Read.
-/
section
namespace Go.Proofs.Ytpknhpfbinplgaa
open Go.RowKit
attribute [local go_sem ↓] Go.wp_at_zero Go.wp_at_succ

/-- The entry that nine bytes are. -/
def entOf (b : List UInt8) : Ent := ⟨(nums [4, 4, 1] b).getD 0 0, (nums [4, 4, 1] b).getD 1 0, (nums [4, 4, 1] b).getD 2 0 == 1⟩
def entsOf : Nat → List UInt8 → List Ent
  | 0, _ => []
  | n + 1, b => entOf b :: entsOf n (b.drop 9)
theorem entsOf_step : ∀ (n : Nat) (b : List UInt8), entsOf (n + 1) b = entsOf n b ++ [entOf (b.drop (9 * n))]
  | 0, b => by simp [entsOf]
  | n + 1, b => by
    rw [entsOf, entsOf_step n (b.drop 9), entsOf, List.drop_drop]
    simp only [List.cons_append]
    rw [show 9 + 9 * n = 9 * (n + 1) by omega]
theorem entsOf_len : ∀ (n : Nat) (b : List UInt8), (entsOf n b).length = n
  | 0, _ => rfl
  | n + 1, b => by simp [entsOf, entsOf_len n]
/-- The table that bytes are. -/
def readT (g : Geo) (b : List UInt8) : Option (List Ent) := if okT g (entsOf (g.d + 1).toNat b) = true ∧ tblB (entsOf (g.d + 1).toNat b) = b then some (entsOf (g.d + 1).toNat b) else none
theorem readT_short {g : Geo} {b : List UInt8} (h : b.length < 9 * (g.d + 1).toNat) : readT g b = none := by
  unfold readT
  rw [if_neg]
  rintro ⟨-, h2⟩
  have := congrArg List.length h2
  rw [tblB_len, entsOf_len] at this
  omega
theorem OwR.int3 {w : World} {M : Ms} {base : Nat} {e : TypeId} {v : Value} {x y z : Int} (h : OwR w M base e v [x, y, z]) : ∃ B c, v = .slice (some ⟨B, 0, none⟩) 3 c ∧ base ≤ B ∧ w.cell? ⟨B, 0, none⟩ = some (.int .i64 x) ∧ w.cell? ⟨B, 1, none⟩ = some (.int .i64 y) ∧ w.cell? ⟨B, 2, none⟩ = some (.int .i64 z) := by
  obtain ⟨B, c, cs, rfl, hb, -, -, he, hc⟩ := h.at_ (k := 0) (by simp)
  obtain ⟨B1, c1, cs1, e1, -, -, -, he1, hc1⟩ := h.at_ (k := 1) (by simp)
  obtain ⟨B2, c2, cs2, e2, -, -, -, he2, hc2⟩ := h.at_ (k := 2) (by simp)
  cases e1; cases e2
  have he : cs = [.int .i64 x] := he
  have he1 : cs1 = [.int .i64 y] := he1
  have he2 : cs2 = [.int .i64 z] := he2
  subst he he1 he2
  exact ⟨B, c, rfl, hb, hc 0 _ rfl, hc1 0 _ rfl, hc2 0 _ rfl⟩
theorem nums3 (b : List UInt8) : ∃ x y z, nums [4, 4, 1] b = [x, y, z] ∧ entOf b = ⟨x, y, z == 1⟩ := ⟨_, _, _, rfl, rfl⟩
instance (s : Int) : Decidable (szOk s) := inferInstanceAs (Decidable (s = 1 ∨ s = 2 ∨ s = 4))
def TreadP (w' : World) (base : Nat) (g : Geo) (b : List UInt8) (e : Ending) : Prop :=
  (okG g = false ∧ e = .returned (.tuple #[.agg #[.slice none 0 0], .int .i64 1])) ∨
  (okG g = true ∧ readT g b = none ∧ e = .returned (.tuple #[.agg #[.slice none 0 0], .int .i64 4])) ∨
  (okG g = true ∧ ∃ v l, readT g b = some l ∧ e = .returned (.tuple #[.agg #[v], .int .i64 0]) ∧ OwR w' noM base 110 v l)

set_option maxRecDepth 100000 in
set_option maxHeartbeats 8000000 in
theorem tread_any (g : Geo) (v : Value) (b : List UInt8) (w : World) (Mi : Ms) (h : SlR w Mi v b) (hl : b.length ≤ 100000) :
    Calls Try.prog 49 #[gv g, v] w fun e w' => TreadP w' w.heap.size g b e ∧ Below w.heap.size w w' := by
  obtain ⟨a, c, rfl⟩ := h.form
  have hb1 := (Below.refl w.heap.size w).alloc (Nat.le_refl _) (.cells #[.int .i64 g.z, .int .i64 g.d, .int .i64 g.sp, .int .i64 g.sl, .int .i64 g.an] 23)
  have hb2 := hb1.alloc (by simp) (.cells #[.slice none 0 0] 89)
  have hG := (Blk.new w 23 #[.int .i64 g.z, .int .i64 g.d, .int .i64 g.sp, .int .i64 g.sl, .int .i64 g.an]).alloc (.cells #[.slice none 0 0] 89)
  have hR := Blk.new (w.alloc (.cells #[.int .i64 g.z, .int .i64 g.d, .int .i64 g.sp, .int .i64 g.sl, .int .i64 g.an] 23)) 89 #[.slice none 0 0]
  simp only [World.size_alloc] at hR
  have HB := Lib.hid hb2
  have HG := Lib.hid hG
  have HR := Lib.hid hR
  have H := Lib.hid h.bare
  have hck := Lib.hid (gcheck_any g ((w.alloc (.cells #[.int .i64 g.z, .int .i64 g.d, .int .i64 g.sp, .int .i64 g.sl, .int .i64 g.an] 23)).alloc (.cells #[.slice none 0 0] 89)))
  unfold gv at hck ⊢
  clear hb1 hb2 hG hR h
  cases hok : okG g with
  | false =>
    have hE := Lib.hid hok
    rw [hok] at hck
    unfold errV at hck
    clear hok
    go_enter Try.func49, Try.ntmps49
    go_wp2_with fail
    ((with_reducible refine hck.out.mono ?_); rintro e w1 ⟨rfl, hB1⟩)
    obtain ⟨r1, r2, r3⟩ := (HR.out.below hB1).all
    have hx := ((HR.out.below hB1).set_ 0 (.slice none 0 0)).cell 0
    go_wp2
    refine bodyPost_ret (v := .tuple #[.agg #[.slice none 0 0], .int .i64 1]) (by simp [results, Try.results49, go_sem, hx]) rfl ?_
    exact ⟨.inl ⟨hE.out, rfl⟩, (HB.out.trans (hB1.mono HB.out.size)).setCell (p := ⟨w.heap.size + 1, 0, none⟩) (Nat.le_succ _) _⟩
  | true =>
    have hE := Lib.hid hok
    rw [hok] at hck
    unfold errV at hck
    obtain ⟨z, d, sp, sl, an⟩ := g
    obtain ⟨-, hd, -⟩ := okG_iff.1 hok
    obtain ⟨n, rfl⟩ : ∃ k : Nat, d = k := ⟨d.toNat, by simp only at hd; omega⟩
    have hk1 : (1 : Int) ≤ n := hd.1
    have hk2 : (n : Int) ≤ 4 := hd.2
    clear hd hok
    simp only at hck HB HG HR H ⊢
    go_enter Try.func49, Try.ntmps49
    go_wp2_with fail
    ((with_reducible refine hck.out.mono ?_); rintro e w1 ⟨rfl, hB1⟩)
    obtain ⟨g1, g2, g3⟩ := (HG.out.below hB1).all
    have hbA := (Below.refl w1.heap.size w1).alloc (Nat.le_refl _) (.cells #[.slice none 0 0] 89)
    have HBA := Lib.hid ((HB.out.trans (hB1.mono HB.out.size)).trans (hbA.mono (Nat.le_trans HB.out.size hB1.size)))
    have HGA := Lib.hid ((HG.out.below hB1).below hbA)
    have HRA := Lib.hid ((HR.out.below hB1).below hbA)
    have HQA := Lib.hid (Blk.new w1 89 #[.slice none 0 0])
    have HQ := Lib.hid (show w.heap.size + 1 < w1.heap.size from (HR.out.below hB1).lt)
    clear hB1 hbA hck HB HG HR
    go_wp2_with fail
    clear g1 g2 g3
    have hw0 : IntKind.i64.wrap ((n : Int) + 1) = n + 1 := by rw [IntKind.wrap_i64]; omega
    go_loopg [7, 21] (n + 1) (fun g s7 s21 wr => ∃ k : Nat, s21 = .int .i64 k ∧ k ≤ n + 1 ∧ n + 1 - k ≤ g ∧ Hid (9 * k ≤ b.length ∧ (∃ vE, Blk wr w1.heap.size 89 #[vE] ∧ OwR wr noM w.heap.size 110 vE (entsOf k b)) ∧ SlR wr noM s7 (b.drop (9 * k)) ∧
      Blk wr w.heap.size 23 #[.int .i64 z, .int .i64 n, .int .i64 sp, .int .i64 sl, .int .i64 an] ∧ Blk wr (w.heap.size + 1) 89 #[.slice none 0 0] ∧ Below w.heap.size w wr))
    case atStart => exact ⟨0, rfl, Nat.zero_le _, by omega, Lib.hid ⟨by omega, ⟨_, HQA.out, OwR.nil _ _ _ _⟩, by simpa using H.out.mono (Keep.below HBA.out), HGA.out, HRA.out, HBA.out⟩⟩
    case round =>
      obtain ⟨k, rfl, hkl, hg, hI⟩ := hrel
      obtain ⟨w0, rfl⟩ : ∃ w0, w0 = wr := ⟨_, rfl⟩
      obtain ⟨hT, ⟨vE, hQ, hoE⟩, hs7, hG, hR, hB⟩ := hI.out
      by_cases hlt : k < n + 1
      · have hlt' : (k : Int) < n + 1 := by omega
        obtain ⟨R, hR0⟩ : ∃ R, R = b.drop (9 * k) := ⟨_, rfl⟩
        rw [← hR0] at hs7
        have hRl : R.length = b.length - 9 * k := by rw [hR0, List.length_drop]
        obtain ⟨a7, c7, rfl⟩ := hs7.form
        have hbl := (Below.refl w0.heap.size w0).alloc (Nat.le_refl _) (.cells #[.int .i64 4, .int .i64 4, .int .i64 1] 3)
        have hun := Lib.hid (unrow_any _ _ R [4, 4, 1] _ noM noM (hs7.mono (Keep.below hbl)) ((OwR.litI w0 noM [4, 4, 1] (by simp)).sl (fun _ _ h => h)) (by decide) (by omega) (by simp))
        simp only [List.map_cons, List.map_nil, List.length_cons, List.length_nil, Nat.reduceAdd] at hun
        have HI := Lib.hid (And.intro hT (And.intro hQ (And.intro hoE (And.intro hG (And.intro hR hB)))))
        have HBL := Lib.hid hbl
        have HRe := Lib.hid (And.intro hR0 hRl)
        clear hT hQ hoE hs7 hG hR hB hI hbl hR0 hRl
        go_wp2_with fail
        ((with_reducible refine hun.out.mono ?_); rintro e w2 ⟨hU, hB2⟩)
        have HB2 := Lib.hid (HBL.out.trans (hB2.mono (by simp)))
        obtain ⟨iT, iQ, iE, iG, iR, iB⟩ := HI.out
        rcases hU with ⟨hfit, v1, v2, rfl, ho1, ho2⟩ | ⟨hfew, rfl⟩
        · obtain ⟨x, y, t, hn3, hent⟩ := nums3 R
          rw [hn3] at ho1
          obtain ⟨B, cB, rfl, hBB, y0, y1, y2⟩ := ho1.int3
          have q1 := (iQ.below HB2.out).cell 0
          have HX := Lib.hid (And.intro hfit (And.intro ho2 (And.intro hn3 hent)))
          clear hfit ho1 ho2 hn3 hent iT iQ iE iG iR iB hB2
          have hS := Lib.hid (show w2.drew.cell? ⟨w1.heap.size, 0, none⟩ = some vE ∧ w2.drew.cell? ⟨B, 0, none⟩ = some (.int .i64 x) ∧ w2.drew.cell? ⟨B, 1, none⟩ = some (.int .i64 y) ∧ w2.drew.cell? ⟨B, 2, none⟩ = some (.int .i64 t) from ⟨q1, y0, y1, y2⟩)
          clear q1 y0 y1 y2
          go_wp2_with fail
          refine rp_enter [1, 4, 7, 10] (fun W => W.cell? ⟨w1.heap.size, 0, none⟩ = some vE ∧ W.cell? ⟨B, 0, none⟩ = some (.int .i64 x) ∧ W.cell? ⟨B, 1, none⟩ = some (.int .i64 y) ∧ W.cell? ⟨B, 2, none⟩ = some (.int .i64 t)) (by kernel_rfl) ?_
          apply rp_pure 0 rfl (by kernel_rfl) (fun _ _ _ h => h) rfl
          · (intro W; go_simp; try rfl)
          · (go_simp; try rfl)
          apply rp_take 1 rfl (by kernel_rfl) (fun _ _ _ h => h) (hS.out) rfl
          · (rintro W ⟨s0, s1, s2, s3⟩; go_simp; try rfl)
          · (go_simp; try rfl)
          apply rp_pure 2 rfl (by kernel_rfl) (fun _ _ _ h => h) rfl
          · (intro W; go_simp; try rfl)
          · (go_simp; try rfl)
          apply rp_pure 3 rfl (by kernel_rfl) (fun _ _ _ h => h) rfl
          · (intro W; go_simp; try rfl)
          · (go_simp; try rfl)
          apply rp_take 4 rfl (by kernel_rfl) (fun _ _ _ h => h) (hS.out) rfl
          · (rintro W ⟨s0, s1, s2, s3⟩; go_simp; try rfl)
          · (go_simp; try rfl)
          apply rp_pure 5 rfl (by kernel_rfl) (fun _ _ _ h => h) rfl
          · (intro W; go_simp; try rfl)
          · (go_simp; try rfl)
          apply rp_pure 6 rfl (by kernel_rfl) (fun _ _ _ h => h) rfl
          · (intro W; go_simp; try rfl)
          · (go_simp; try rfl)
          apply rp_take 7 rfl (by kernel_rfl) (fun _ _ _ h => h) (hS.out) rfl
          · (rintro W ⟨s0, s1, s2, s3⟩; go_simp; try rfl)
          · (go_simp; try rfl)
          apply rp_pure 8 rfl (by kernel_rfl) (fun _ _ _ h => h) rfl
          · (intro W; go_simp; try rfl)
          · (go_simp; try rfl)
          apply rp_pure 9 rfl (by kernel_rfl) (fun _ _ _ h => h) rfl
          · (intro W; go_simp; try rfl)
          · (go_simp; try rfl)
          apply rp_take 10 rfl (by kernel_rfl) (fun _ _ _ h => h) (hS.out) rfl
          · (rintro W ⟨s0, s1, s2, s3⟩; go_simp; try rfl)
          · (go_simp; try rfl)
          apply rp_pure 11 rfl (by kernel_rfl) (fun _ _ _ h => h) rfl
          · (intro W; go_simp; try rfl)
          · (go_simp; try rfl)
          apply rp_pure 12 rfl (by kernel_rfl) (fun _ _ _ h => h) rfl
          · (intro W; go_simp; try rfl)
          · (go_simp; try rfl)
          refine rp_only 13 (by kernel_rfl) rfl (fun K hK => ?_)
          go_simp
          have hbA := (Below.refl w2.heap.size w2).alloc (Nat.le_refl _) (.cells #[.int .i64 x, .int .i64 y, .bool (t == 1)] 110)
          have hbD := hbA.drew
          have hS2 := Lib.hid (And.intro (below_cell hbD hS.out.1) (And.intro (below_cell hbD hS.out.2.1) (And.intro (below_cell hbD hS.out.2.2.1) (below_cell hbD hS.out.2.2.2))))
          obtain ⟨iT, iQ, iE, iG, iR, iB⟩ := HI.out
          have HBD := Lib.hid (HB2.out.trans (hbD.mono HB2.out.size))
          have O3 := Lib.hid (iE.below HBD.out)
          have HB3 := Lib.hid (iB.trans (HBD.out.mono iB.size))
          have hS3 := Lib.hid (show SlR (w2.alloc (.cells #[.int .i64 x, .int .i64 y, .bool (t == 1)] 110)).drew (fun b => noM b ∨ vE.ownBlock = some b) (.slice (some ⟨w2.heap.size, 0, none⟩) 1 1) [(⟨x, y, t == 1⟩ : Ent)] from
            SlR.one ((Blk.new w2 110 #[.int .i64 x, .int .i64 y, .bool (t == 1)]).drew) rfl (fun h' => h'.elim (fun h => h) (fun h => by have := iE.own_lt h; have := HB2.out.size; omega)))
          have hlk : (entsOf k b).length + 1 ≤ 1000000000 := by rw [entsOf_len]; omega
          clear iT iQ iE iG iR iB hbA hbD
          refine hK _ _ ⟨fun _ _ => hS2.out, ?_⟩; clear hK K
          refine rp_only 14 (by kernel_rfl) rfl (fun K hK => ?_)
          refine step_append_R (α := Ent) (M := noM) (base := w.heap.size) (l := entsOf k b) (m := [(⟨x, y, t == 1⟩ : Ent)]) rfl (by rfl) tyE (by rfl) O3.out (by rfl) hS3.out (by simpa using hlk) HB3.out.size ?_
          intro v4 w4 ho4 hg4 hat4
          obtain ⟨L4, hL4⟩ : ∃ L4, L4 = entsOf k b ++ [(⟨x, y, t == 1⟩ : Ent)] := ⟨_, rfl⟩
          rw [← hL4] at ho4
          have HL4 := Lib.hid hL4
          clear hL4
          obtain ⟨A4, C4, rfl⟩ := ho4.form
          have hgc : ∀ (bb o : Nat) (u : Value), (w2.alloc (.cells #[.int .i64 x, .int .i64 y, .bool (t == 1)] 110)).drew.cell? ⟨bb, o, none⟩ = some u → vE.ownBlock ≠ some bb → w4.cell? ⟨bb, o, none⟩ = some u := fun bb o u hc hne =>
            (World.cell?_of_block (a := ⟨bb, o, none⟩) (hg4.block bb (World.block_lt_of_cell? _ _ hc) (fun e => hne e.symm))).trans hc
          have hneq : vE.ownBlock ≠ some w1.heap.size := O3.out.ne_ (HI.out.2.1.below HBD.out) (by decide)
          have hneB : vE.ownBlock ≠ some B := fun e => by have := HI.out.2.2.1.own_lt e; simp at hBB; omega
          have hS4 := Lib.hid (And.intro (hgc _ _ _ hS2.out.1 hneq) (And.intro (hgc _ _ _ hS2.out.2.1 hneB) (And.intro (hgc _ _ _ hS2.out.2.2.1 hneB) (hgc _ _ _ hS2.out.2.2.2 hneB))))
          clear hgc hneq hneB
          refine hK _ _ ⟨fun _ _ => hS4.out, ?_⟩; clear hK K
          obtain ⟨iT, iQ, iE, iG, iR, iB⟩ := HI.out
          obtain ⟨xT, xo2, xn, xe⟩ := HX.out
          have hb40 : Below w.heap.size w w4 := HB3.out.grown hg4 HB3.out.size (fun b e => O3.out.own_ge e)
          have Q3 := iQ.below HBD.out
          have Q4 := Q3.grown hg4 (fun e => O3.out.ne_ Q3 (by decide) e.symm)
          have G3 := iG.below HBD.out
          have G4 := Lib.hid (G3.grown hg4 (fun e => O3.out.ne_ G3 (by decide) e.symm))
          have R3 := iR.below HBD.out
          have R4 := Lib.hid (R3.grown hg4 (fun e => O3.out.ne_ R3 (by decide) e.symm))
          have hbD := ((Below.refl w2.heap.size w2).alloc (Nat.le_refl _) (.cells #[.int .i64 x, .int .i64 y, .bool (t == 1)] 110)).drew
          have V4 := ((xo2.below hbD).keptP plU hg4 (iE.own_new (xo2.mono_base (by simp))))
          have V5 := Lib.hid (And.intro V4 (V4.ne_ Q4 (by decide)))
          have O4 := Lib.hid (And.intro ho4 (ho4.ne_ Q4 (by decide)))
          have HQ4 := Lib.hid Q4
          obtain ⟨q1, q2, q3⟩ := Q4.all
          have HN := Lib.hid (And.intro xT xe)
          have HB4 := Lib.hid (And.intro hb40 iB)
          clear iT iQ iE iG iR iB xT xo2 xn xe hb40 Q3 Q4 G3 R3 hbD V4 ho4 hg4 hat4 HX
          apply rp_pure 15 rfl (by kernel_rfl) (fun _ _ _ h => h) rfl
          · (intro W; go_simp; try rfl)
          · (go_simp; try rfl)
          refine rp_free 16 (by kernel_rfl) (by kernel_rfl) rfl (fun K hK => ?_)
          go_simp
          refine hK _ _ ?_; clear hK K
          clear q1 q2 q3
          refine rp_done (by kernel_rfl) ?_
          go_wp2
          go_roundg (n + 1 - (k + 1))
          case measure => omega
          case rel =>
            obtain ⟨iT, iQ, iE, iG, iR, iB⟩ := HI.out
            obtain ⟨xT, xe⟩ := HN.out
            have hq := HQ.out
            simp [tot] at xT
            refine ⟨k + 1, by go_num, by omega, by omega, Lib.hid ⟨?_, ⟨_, HQ4.out.set_ 0 _, ?_⟩, ?_, G4.out.far (by simp; omega) _, R4.out.far (by simp; omega) _, HB4.out.1.setCell (by simp; omega) _⟩⟩
            · have := HRe.out.2; omega
            · rw [entsOf_step, ← HRe.out.1, xe, ← HL4.out]
              exact O4.out.1.setP plE (p := ⟨w1.heap.size, 0, none⟩) O4.out.2 _
            · have := (V5.out.1.setP plU (p := ⟨w1.heap.size, 0, none⟩) V5.out.2 (.slice A4 L4.length C4)).sl (M := noM) (fun _ _ h => h)
              rw [HRe.out.1, List.drop_drop, show tot [4, 4, 1] = 9 from rfl, show 9 * k + 9 = 9 * (k + 1) by omega] at this
              exact this
        · have hno := Lib.hid (readT_short (g := ⟨z, n, sp, sl, an⟩) (b := b) (by
            have h1 := HRe.out.2
            have h2 := hfew
            simp [tot] at h2
            have : ((n : Int) + 1).toNat = n + 1 := by omega
            simp only [this]
            omega))
          have hR5 := iR.below HB2.out
          obtain ⟨r1, r2, r3⟩ := hR5.all
          have hx := (hR5.set_ 0 (.slice none 0 0)).cell 0
          have HB5 := Lib.hid (iB.trans (HB2.out.mono iB.size))
          clear iT iQ iE iG iR iB hR5 hB2 hfew
          go_wp2
          refine bodyPost_ret (v := .tuple #[.agg #[.slice none 0 0], .int .i64 4]) (by simp [results, Try.results49, go_sem, hx]) rfl ?_
          exact ⟨.inr (.inl ⟨hE.out, hno.out, rfl⟩), HB5.out.setCell (p := ⟨w.heap.size + 1, 0, none⟩) (Nat.le_succ _) _⟩
      · obtain rfl : k = n + 1 := by omega
        have hnn : (((n + 1 : Nat) : Int)) = (n : Int) + 1 := by omega
        have hRT : Hid (readT ⟨z, n, sp, sl, an⟩ b = if okT ⟨z, n, sp, sl, an⟩ (entsOf (n + 1) b) = true ∧ tblB (entsOf (n + 1) b) = b then some (entsOf (n + 1) b) else none) := Lib.hid (by
          have : ((n : Int) + 1).toNat = n + 1 := by omega
          simp only [readT, this])
        have hlen := entsOf_len (n + 1) b
        obtain ⟨L, hL⟩ : ∃ L, L = entsOf (n + 1) b := ⟨_, rfl⟩
        rw [← hL] at hRT hoE hlen
        have htb := Lib.hid (tbytes_any ⟨z, n, sp, sl, an⟩ vE L w0 noM (hoE.sl (fun _ _ h => h)) (by omega))
        unfold gv at htb
        simp only at htb
        obtain ⟨q1, q2, q3⟩ := hQ.all
        obtain ⟨g1, g2, g3⟩ := hG.all
        have HI := Lib.hid (And.intro hQ (And.intro hoE (And.intro hR hB)))
        clear hI hL hlen hT hQ hoE hs7 hG hR hB hnn
        go_wp2_with fail
        ((with_reducible refine htb.out.mono ?_); rintro e w2 ⟨hU, hB2⟩)
        obtain ⟨iQ, iE, iR, iB⟩ := HI.out
        have Q2 := iQ.below hB2
        have R2 := iR.below hB2
        have E2 := iE.below hB2
        have B2 := Lib.hid (iB.trans (hB2.mono iB.size))
        obtain ⟨r1, r2, r3⟩ := R2.all
        rcases hU with ⟨hok, vb, rfl, hob⟩ | ⟨hno, rfl⟩
        · have heq := Lib.hid (equal_any vb (.slice a b.length c) (tblB L) b w2 noM noM (hob.sl (fun _ _ h => h)) (H.out.mono (Keep.below B2.out)))
          obtain ⟨ab, cb, rfl⟩ := hob.form
          cases hd : decide (tblB L = b) with
          | false =>
            have hF := Lib.hid (show readT ⟨z, n, sp, sl, an⟩ b = none by rw [hRT.out, if_neg]; rintro ⟨-, h⟩; simp [h] at hd)
            rw [hd] at heq
            clear hd q1 q2 q3 g1 g2 g3 iQ iE iR iB Q2 E2 hB2 hok hob
            have hx := (R2.set_ 0 (.slice none 0 0)).cell 0
            clear R2
            go_wp2_with (go_at_call 40; go_must (with_reducible refine heq.out.mono ?_); rintro e w3 ⟨rfl, rfl⟩)
            refine bodyPost_ret (v := .tuple #[.agg #[.slice none 0 0], .int .i64 4]) (by simp [results, Try.results49, go_sem, hx]) rfl ?_
            exact ⟨.inr (.inl ⟨hE.out, hF.out, rfl⟩), B2.out.setCell (p := ⟨w.heap.size + 1, 0, none⟩) (Nat.le_succ _) _⟩
          | true =>
            have hF := Lib.hid (show readT ⟨z, n, sp, sl, an⟩ b = some L by rw [hRT.out, if_pos]; exact ⟨hok, by simpa using hd⟩)
            rw [hd] at heq
            have hne := Lib.hid (E2.ne_ R2 (by decide))
            have HE2 := Lib.hid E2
            obtain ⟨p1, p2, p3⟩ := Q2.all
            have hx := (R2.set_ 0 vE).cell 0
            obtain ⟨aE, cE, rfl⟩ := E2.form
            clear hd q1 q2 q3 g1 g2 g3 iQ iE iR iB Q2 E2 hB2 hok hob R2
            go_wp2_with (go_at_call 40; go_must (with_reducible refine heq.out.mono ?_); rintro e w3 ⟨rfl, rfl⟩)
            refine bodyPost_ret (v := .tuple #[.agg #[.slice aE L.length cE], .int .i64 0]) (by simp [results, Try.results49, go_sem, hx]) rfl ?_
            exact ⟨.inr (.inr ⟨hE.out, _, L, hF.out, rfl, HE2.out.setP plE (p := ⟨w.heap.size + 1, 0, none⟩) hne.out _⟩), B2.out.setCell (p := ⟨w.heap.size + 1, 0, none⟩) (Nat.le_succ _) _⟩
        · have hF := Lib.hid (show readT ⟨z, n, sp, sl, an⟩ b = none by rw [hRT.out, if_neg]; rintro ⟨h, -⟩; rw [hno] at h; cases h)
          have hx := (R2.set_ 0 (.slice none 0 0)).cell 0
          clear q1 q2 q3 g1 g2 g3 iQ iE iR iB Q2 E2 hB2 hno R2
          go_wp2
          refine bodyPost_ret (v := .tuple #[.agg #[.slice none 0 0], .int .i64 4]) (by simp [results, Try.results49, go_sem, hx]) rfl ?_
          exact ⟨.inr (.inl ⟨hE.out, hF.out, rfl⟩), B2.out.setCell (p := ⟨w.heap.size + 1, 0, none⟩) (Nat.le_succ _) _⟩
end Go.Proofs.Ytpknhpfbinplgaa
end

/-
Package rec: whether an image is none, is right.
-/
section
namespace Go.Proofs.Ytpknhpfbinplgaa
open Go.RowKit
attribute [local go_sem ↓] Go.wp_at_zero Go.wp_at_succ

def noneB (x : Img) : Bool := x.zone == 0 && (x.what == 0 && (x.bytes.length : Int) == 0)
theorem none_any (x : Img) (a : Option Addr) (c : Nat) (w : World) :
    Calls Try.prog 58 #[.agg #[.int .i64 x.zone, .int .i64 x.what, .slice a x.bytes.length c]] w fun e w' => e = .returned (.bool (noneB x)) ∧ Below w.heap.size w w' := by
  have hB := Lib.hid (fun o => (Below.refl w.heap.size w).alloc (Nat.le_refl _) o)
  have hE := Lib.hid (show noneB x = (x.zone == 0 && (x.what == 0 && (x.bytes.length : Int) == 0)) from rfl)
  go_enter Try.func58, Try.ntmps58
  go_wp2
  all_goals
    go_ret
    refine ⟨?_, hB.out _⟩
    rw [hE.out]
    show Ending.returned (.bool _) = _
    simp [*]
/-- Whether an image is right. -/
def imgOk (g : Geo) (x : Img) : Bool := okG g && (inB x.zone 0 (g.z - 1) && (if x.what = 255 then (readT g x.bytes).isSome else inB x.what (-1) (g.d - 1) && decide (x.bytes.length = 8)))

set_option maxHeartbeats 4000000 in
theorem image_any (g : Geo) (x : Img) (v : Value) (w : World) (Mi : Ms) (h : SlR w Mi v x.bytes) (hl : x.bytes.length ≤ 100000) :
    Calls Try.prog 24 #[gv g, .agg #[.int .i64 x.zone, .int .i64 x.what, v]] w fun e w' => e = .returned (errV (imgOk g x)) ∧ Below w.heap.size w w' := by
  obtain ⟨zone, what, bytes⟩ := x
  obtain ⟨z, d, sp, sl, an⟩ := g
  simp only at h hl ⊢
  obtain ⟨a, c, rfl⟩ := h.form
  have hb1 := (Below.refl w.heap.size w).alloc (Nat.le_refl _) (.cells #[.int .i64 z, .int .i64 d, .int .i64 sp, .int .i64 sl, .int .i64 an] 23)
  have hb2 := hb1.alloc (by simp) (.cells #[.int .i64 zone, .int .i64 what, .slice a bytes.length c] 26)
  have hG := (Blk.new w 23 #[.int .i64 z, .int .i64 d, .int .i64 sp, .int .i64 sl, .int .i64 an]).alloc (.cells #[.int .i64 zone, .int .i64 what, .slice a bytes.length c] 26)
  have hT := Blk.new (w.alloc (.cells #[.int .i64 z, .int .i64 d, .int .i64 sp, .int .i64 sl, .int .i64 an] 23)) 26 #[.int .i64 zone, .int .i64 what, .slice a bytes.length c]
  simp only [World.size_alloc] at hT
  have HB := Lib.hid hb2
  have HG := Lib.hid hG
  have HT := Lib.hid hT
  have hgc := Lib.hid (gcheck_any ⟨z, d, sp, sl, an⟩ ((w.alloc (.cells #[.int .i64 z, .int .i64 d, .int .i64 sp, .int .i64 sl, .int .i64 an] 23)).alloc (.cells #[.int .i64 zone, .int .i64 what, .slice a bytes.length c] 26)))
  unfold gv at hgc ⊢
  simp only at hgc ⊢
  have H := Lib.hid h.bare
  clear hb1 hb2 hG hT h
  cases hok : okG ⟨z, d, sp, sl, an⟩ with
  | false =>
    have hE := Lib.hid (show imgOk ⟨z, d, sp, sl, an⟩ ⟨zone, what, bytes⟩ = false by simp [imgOk, hok])
    rw [hok] at hgc
    clear hok
    unfold errV at hgc
    go_enter Try.func24, Try.ntmps24
    go_wp2_with (go_at_call 33; go_must (with_reducible refine hgc.out.mono ?_); rintro e w1 ⟨rfl, hB1⟩)
    go_ret
    rw [hE.out]
    exact ⟨rfl, HB.out.trans (hB1.mono HB.out.size)⟩
  | true =>
    have hE := Lib.hid (show imgOk ⟨z, d, sp, sl, an⟩ ⟨zone, what, bytes⟩ = (inB zone 0 (z - 1) && (if what = 255 then (readT ⟨z, d, sp, sl, an⟩ bytes).isSome else inB what (-1) (d - 1) && decide (bytes.length = 8))) by simp [imgOk, hok])
    rw [hok] at hgc
    unfold errV at hgc
    obtain ⟨hz, hd, -⟩ := okG_iff.1 hok
    have hz1 : (1 : Int) ≤ z := hz.1
    have hz2 : z ≤ 4 := hz.2
    have hd1 : (1 : Int) ≤ d := hd.1
    have hd2 : d ≤ 4 := hd.2
    have hwz : IntKind.i64.wrap (z - 1) = z - 1 := by rw [IntKind.wrap_i64]; omega
    have hwd : IntKind.i64.wrap (d - 1) = d - 1 := by rw [IntKind.wrap_i64]; omega
    have hin := fun w => rin_any zone 0 (z - 1) w
    have hin2 := fun w => rin_any what (-1) (d - 1) w
    have HO := Lib.hid hok
    clear hz hd hok
    cases hzo : inB zone 0 (z - 1) with
    | false =>
      rw [hzo] at hE
      rw [hzo] at hin
      clear hzo
      go_enter Try.func24, Try.ntmps24
      go_wp2_with fail
      ((with_reducible refine hgc.out.mono ?_); rintro e w1 ⟨rfl, hB1⟩)
      obtain ⟨g1, g2, g3⟩ := (HG.out.below hB1).all
      obtain ⟨t1, t2, t3⟩ := (HT.out.below hB1).all
      go_wp2_with (go_at_call 41; go_must (with_reducible refine (hin _).mono ?_); rintro e w1 ⟨rfl, rfl⟩)
      go_ret
      rw [hE.out]
      exact ⟨rfl, HB.out.trans (hB1.mono HB.out.size)⟩
    | true =>
      rw [hzo] at hE
      rw [hzo] at hin
      clear hzo
      by_cases hw : what = 255
      · subst hw
        rw [if_pos rfl] at hE
        go_enter Try.func24, Try.ntmps24
        go_wp2_with fail
        ((with_reducible refine hgc.out.mono ?_); rintro e w1 ⟨rfl, hB1⟩)
        obtain ⟨g1, g2, g3⟩ := (HG.out.below hB1).all
        obtain ⟨t1, t2, t3⟩ := (HT.out.below hB1).all
        have HB1 := Lib.hid (HB.out.trans (hB1.mono HB.out.size))
        have htr := Lib.hid (tread_any ⟨z, d, sp, sl, an⟩ (.slice a bytes.length c) bytes w1 noM (H.out.mono (Keep.below HB1.out)) hl)
        unfold gv at htr
        simp only at htr
        clear hB1
        go_wp2_with fail
        ((with_reducible refine (hin _).mono ?_); rintro e w1 ⟨rfl, rfl⟩)
        go_wp2_with fail
        ((with_reducible refine htr.out.mono ?_); rintro e w2 ⟨hU, hB2⟩)
        have HB2 := Lib.hid (HB1.out.trans (hB2.mono HB1.out.size))
        clear hB2
        rcases hU with ⟨hno, -⟩ | ⟨-, hno, rfl⟩ | ⟨-, vt, lt, hyes, rfl, ho⟩
        · rw [HO.out] at hno; cases hno
        · have hF := Lib.hid hno
          clear hno
          go_wp2
          go_ret
          rw [hE.out, hF.out]
          exact ⟨rfl, HB2.out.trans (((Below.refl w2.heap.size w2).alloc (Nat.le_refl _) _).mono HB2.out.size)⟩
        · have hF := Lib.hid hyes
          obtain ⟨at_, ct, rfl⟩ := ho.form
          clear hyes ho
          go_wp2
          go_ret
          rw [hE.out, hF.out]
          exact ⟨rfl, HB2.out.trans (((Below.refl w2.heap.size w2).alloc (Nat.le_refl _) _).mono HB2.out.size)⟩
      · rw [if_neg hw] at hE
        have hw' : (what == 255) = false := by simpa using hw
        clear hw
        cases hwo : inB what (-1) (d - 1) with
        | false =>
          rw [hwo] at hE
          rw [hwo] at hin2
          clear hwo
          go_enter Try.func24, Try.ntmps24
          go_wp2_with fail
          ((with_reducible refine hgc.out.mono ?_); rintro e w1 ⟨rfl, hB1⟩)
          obtain ⟨g1, g2, g3⟩ := (HG.out.below hB1).all
          obtain ⟨t1, t2, t3⟩ := (HT.out.below hB1).all
          go_wp2_with (go_at_call 41; go_must (first | (with_reducible refine (hin _).mono ?_) | (with_reducible refine (hin2 _).mono ?_)); rintro e w1 ⟨rfl, rfl⟩)
          go_ret
          rw [hE.out]
          exact ⟨rfl, HB.out.trans (hB1.mono HB.out.size)⟩
        | true =>
          rw [hwo] at hE
          rw [hwo] at hin2
          clear hwo
          go_enter Try.func24, Try.ntmps24
          go_wp2_with fail
          ((with_reducible refine hgc.out.mono ?_); rintro e w1 ⟨rfl, hB1⟩)
          obtain ⟨g1, g2, g3⟩ := (HG.out.below hB1).all
          obtain ⟨t1, t2, t3⟩ := (HT.out.below hB1).all
          by_cases h8 : bytes.length = 8
          · have h8' : ((bytes.length : Int) != 8) = false := by simp; omega
            have hF := Lib.hid (show decide (bytes.length = 8) = true by simpa using h8)
            clear h8
            go_wp2_with (go_at_call 41; go_must (first | (with_reducible refine (hin _).mono ?_) | (with_reducible refine (hin2 _).mono ?_)); rintro e w1 ⟨rfl, rfl⟩)
            go_ret
            rw [hE.out, hF.out]
            exact ⟨rfl, HB.out.trans (hB1.mono HB.out.size)⟩
          · have h8' : ((bytes.length : Int) != 8) = true := by simp; omega
            have hF := Lib.hid (show decide (bytes.length = 8) = false by simpa using h8)
            clear h8
            go_wp2_with (go_at_call 41; go_must (first | (with_reducible refine (hin _).mono ?_) | (with_reducible refine (hin2 _).mono ?_)); rintro e w1 ⟨rfl, rfl⟩)
            go_ret
            rw [hE.out, hF.out]
            exact ⟨rfl, HB.out.trans (hB1.mono HB.out.size)⟩
end Go.Proofs.Ytpknhpfbinplgaa
end

/-
Package rec: what a record has behind its numbers.
-/
section
namespace Go.Proofs.Ytpknhpfbinplgaa
open Go.RowKit
attribute [local go_sem ↓] Go.wp_at_zero Go.wp_at_succ

def numsB (r : Rc) : Bool := inB r.seq 0 4294967295 && (inB r.epoch 0 4294967295 && inB r.of_ 2 30)
/-- Is a record right (of a right geometry)? -/
def behOk (g : Geo) (r : Rc) : Bool :=
  if r.kind = 0 then r.seq == 0 && (r.epoch == 0 && (r.at_ == 0 && (r.of_ == 0 && noneB r.img)))
  else if r.kind = 1 then numsB r && (inB r.at_ 0 (r.of_ - 2) && imgOk g r.img)
  else if r.kind = 2 then numsB r && (r.at_ == r.of_ - 1 && noneB r.img)
  else false
def behV (r : Rc) (v : Value) : Value :=
  if r.kind = 0 then .nilIface
  else if r.kind = 1 then .iface 79 (.agg #[.int .i64 r.img.zone, .int .i64 r.img.what, v])
  else if r.kind = 2 then .iface 76 (.agg #[])
  else .nilIface
def rv (r : Rc) (v : Value) : Value := .agg #[.int .i64 r.kind, .int .i64 r.seq, .int .i64 r.epoch, .int .i64 r.at_, .int .i64 r.of_, .int .i64 r.img.zone, .int .i64 r.img.what, v]

set_option maxHeartbeats 8000000 in
theorem behind_any (g : Geo) (r : Rc) (v : Value) (w : World) (Mi : Ms) (h : SlR w Mi v r.img.bytes) (hl : r.img.bytes.length ≤ 100000) :
    Calls Try.prog 32 #[gv g, rv r v] w fun e w' => e = .returned (.tuple #[behV r v, .bool (behOk g r)]) ∧ Below w.heap.size w w' := by
  obtain ⟨kind, seq, epoch, at_, of_, ⟨zone, what, bytes⟩⟩ := r
  obtain ⟨z, d, sp, sl, an⟩ := g
  simp only at h hl
  obtain ⟨a, c, rfl⟩ := h.form
  unfold rv gv
  simp only
  have hb1 := (Below.refl w.heap.size w).alloc (Nat.le_refl _) (.cells #[.int .i64 z, .int .i64 d, .int .i64 sp, .int .i64 sl, .int .i64 an] 23)
  have hb2 := fun o => hb1.alloc (by simp) o
  have HB := Lib.hid hb2
  have hnone := fun w' => none_any ⟨zone, what, bytes⟩ a c w'
  by_cases hk0 : kind = 0
  · subst hk0
    have hV : Hid (behV ⟨0, seq, epoch, at_, of_, ⟨zone, what, bytes⟩⟩ (.slice a bytes.length c) = .nilIface) := Lib.hid (by simp [behV])
    have hE : Hid (behOk ⟨z, d, sp, sl, an⟩ ⟨0, seq, epoch, at_, of_, ⟨zone, what, bytes⟩⟩ = (seq == 0 && (epoch == 0 && (at_ == 0 && (of_ == 0 && noneB ⟨zone, what, bytes⟩))))) := Lib.hid (by simp [behOk])
    rw [hV.out, hE.out]
    cases hs : seq == 0 with
    | false =>
      go_enter Try.func32, Try.ntmps32
      go_wp2
      go_ret2
      exact ⟨rfl, HB.out _⟩
    | true =>
      obtain rfl : seq = 0 := by simpa using hs
      cases hp : epoch == 0 with
      | false =>
        go_enter Try.func32, Try.ntmps32
        go_wp2
        go_ret2
        exact ⟨rfl, HB.out _⟩
      | true =>
        obtain rfl : epoch = 0 := by simpa using hp
        cases ha : at_ == 0 with
        | false =>
          go_enter Try.func32, Try.ntmps32
          go_wp2
          go_ret2
          exact ⟨rfl, HB.out _⟩
        | true =>
          obtain rfl : at_ = 0 := by simpa using ha
          cases ho : of_ == 0 with
          | false =>
            go_enter Try.func32, Try.ntmps32
            go_wp2
            go_ret2
            exact ⟨rfl, HB.out _⟩
          | true =>
            obtain rfl : of_ = 0 := by simpa using ho
            clear hs hp ha ho
            simp only at hnone
            obtain ⟨bn, hbn⟩ : ∃ bn, bn = noneB ⟨zone, what, bytes⟩ := ⟨_, rfl⟩
            rw [← hbn] at hE hnone ⊢
            clear hbn hE hV
            go_enter Try.func32, Try.ntmps32
            go_wp2_with (go_at_call 58; go_must (with_reducible refine (hnone _).mono ?_); rintro e w1 ⟨rfl, hB1⟩)
            go_ret2
            exact ⟨rfl, (HB.out _).trans (hB1.mono (HB.out _).size)⟩
  · by_cases hk1 : kind = 1
    · subst hk1
      have hV : Hid (behV ⟨1, seq, epoch, at_, of_, ⟨zone, what, bytes⟩⟩ (.slice a bytes.length c) = .iface 79 (.agg #[.int .i64 zone, .int .i64 what, .slice a bytes.length c])) := Lib.hid (by simp [behV])
      have hE : Hid (behOk ⟨z, d, sp, sl, an⟩ ⟨1, seq, epoch, at_, of_, ⟨zone, what, bytes⟩⟩ = ((inB seq 0 4294967295 && (inB epoch 0 4294967295 && inB of_ 2 30)) && (inB at_ 0 (of_ - 2) && imgOk ⟨z, d, sp, sl, an⟩ ⟨zone, what, bytes⟩))) := Lib.hid (by simp [behOk, numsB])
      rw [hV.out, hE.out]
      have hin1 := fun w => rin_any seq 0 4294967295 w
      have hin2 := fun w => rin_any epoch 0 4294967295 w
      have hin3 := fun w => rin_any of_ 2 30 w
      cases hs : inB seq 0 4294967295 with
      | false =>
        rw [hs] at hin1
        clear hV hE hs
        go_enter Try.func32, Try.ntmps32
        go_wp2_with (go_at_call 41; go_must (first | (with_reducible refine (hin1 _).mono ?_)); rintro e w1 ⟨rfl, rfl⟩)
        go_ret2
        exact ⟨rfl, HB.out _⟩
      | true =>
        cases hp : inB epoch 0 4294967295 with
        | false =>
          rw [hs] at hin1
          rw [hp] at hin2
          clear hV hE hs hp
          go_enter Try.func32, Try.ntmps32
          go_wp2_with (go_at_call 41; go_must (first | (with_reducible refine (hin1 _).mono ?_) | (with_reducible refine (hin2 _).mono ?_)); rintro e w1 ⟨rfl, rfl⟩)
          go_ret2
          exact ⟨rfl, HB.out _⟩
        | true =>
          cases ho : inB of_ 2 30 with
          | false =>
            rw [hs] at hin1
            rw [hp] at hin2
            rw [ho] at hin3
            clear hV hE hs hp ho
            go_enter Try.func32, Try.ntmps32
            go_wp2_with (go_at_call 41; go_must (first | (with_reducible refine (hin1 _).mono ?_) | (with_reducible refine (hin2 _).mono ?_) | (with_reducible refine (hin3 _).mono ?_)); rintro e w1 ⟨rfl, rfl⟩)
            go_ret2
            exact ⟨rfl, HB.out _⟩
          | true =>
            obtain ⟨ho1, ho2⟩ := inB_iff.1 ho
            rw [hs] at hin1
            rw [hp] at hin2
            rw [ho] at hin3
            clear hV hE hs hp ho
            simp only [Bool.true_and]
            have hwo : IntKind.i64.wrap (of_ - 2) = of_ - 2 := by rw [IntKind.wrap_i64]; omega
            have hin4 := fun w => rin_any at_ 0 (of_ - 2) w
            cases ha : inB at_ 0 (of_ - 2) with
            | false =>
              rw [ha] at hin4
              clear ha
              go_enter Try.func32, Try.ntmps32
              go_wp2_with (go_at_call 41; go_must (first | (with_reducible refine (hin1 _).mono ?_) | (with_reducible refine (hin2 _).mono ?_) | (with_reducible refine (hin3 _).mono ?_) | (with_reducible refine (hin4 _).mono ?_)); rintro e w1 ⟨rfl, rfl⟩)
              go_ret2
              exact ⟨rfl, HB.out _⟩
            | true =>
              rw [ha] at hin4
              clear ha
              have hG := (Blk.new w 23 #[.int .i64 z, .int .i64 d, .int .i64 sp, .int .i64 sl, .int .i64 an]).alloc (.cells #[.int .i64 1, .int .i64 seq, .int .i64 epoch, .int .i64 at_, .int .i64 of_, .int .i64 zone, .int .i64 what, .slice a bytes.length c] 28)
              have hT := Blk.new (w.alloc (.cells #[.int .i64 z, .int .i64 d, .int .i64 sp, .int .i64 sl, .int .i64 an] 23)) 28 #[.int .i64 1, .int .i64 seq, .int .i64 epoch, .int .i64 at_, .int .i64 of_, .int .i64 zone, .int .i64 what, .slice a bytes.length c]
              simp only [World.size_alloc] at hT
              have him := Lib.hid (image_any ⟨z, d, sp, sl, an⟩ ⟨zone, what, bytes⟩ (.slice a bytes.length c) _ Mi (h.mono (Keep.below (HB.out (.cells #[.int .i64 1, .int .i64 seq, .int .i64 epoch, .int .i64 at_, .int .i64 of_, .int .i64 zone, .int .i64 what, .slice a bytes.length c] 28)))) hl)
              unfold gv errV at him
              simp only at him
              have HT := Lib.hid hT
              clear hG hT
              cases hb : imgOk ⟨z, d, sp, sl, an⟩ ⟨zone, what, bytes⟩ with
              | false =>
                rw [hb] at him
                clear hb
                go_enter Try.func32, Try.ntmps32
                go_wp2_with (go_at_call 41; go_must (first | (with_reducible refine (hin1 _).mono ?_) | (with_reducible refine (hin2 _).mono ?_) | (with_reducible refine (hin3 _).mono ?_) | (with_reducible refine (hin4 _).mono ?_)); rintro e w1 ⟨rfl, rfl⟩)
                ((with_reducible refine him.out.mono ?_); rintro e w1 ⟨rfl, hB1⟩)
                obtain ⟨t1, t2, t3⟩ := (HT.out.below hB1).all
                go_wp2
                go_ret2
                exact ⟨rfl, (HB.out _).trans (hB1.mono (HB.out _).size)⟩
              | true =>
                rw [hb] at him
                clear hb
                go_enter Try.func32, Try.ntmps32
                go_wp2_with (go_at_call 41; go_must (first | (with_reducible refine (hin1 _).mono ?_) | (with_reducible refine (hin2 _).mono ?_) | (with_reducible refine (hin3 _).mono ?_) | (with_reducible refine (hin4 _).mono ?_)); rintro e w1 ⟨rfl, rfl⟩)
                ((with_reducible refine him.out.mono ?_); rintro e w1 ⟨rfl, hB1⟩)
                obtain ⟨t1, t2, t3⟩ := (HT.out.below hB1).all
                go_wp2
                go_ret2
                exact ⟨rfl, (HB.out _).trans (hB1.mono (HB.out _).size)⟩
    · by_cases hk2 : kind = 2
      · subst hk2
        have hV : Hid (behV ⟨2, seq, epoch, at_, of_, ⟨zone, what, bytes⟩⟩ (.slice a bytes.length c) = .iface 76 (.agg #[])) := Lib.hid (by simp [behV])
        have hE : Hid (behOk ⟨z, d, sp, sl, an⟩ ⟨2, seq, epoch, at_, of_, ⟨zone, what, bytes⟩⟩ = ((inB seq 0 4294967295 && (inB epoch 0 4294967295 && inB of_ 2 30)) && (at_ == of_ - 1 && noneB ⟨zone, what, bytes⟩))) := Lib.hid (by simp [behOk, numsB])
        rw [hV.out, hE.out]
        have hin1 := fun w => rin_any seq 0 4294967295 w
        have hin2 := fun w => rin_any epoch 0 4294967295 w
        have hin3 := fun w => rin_any of_ 2 30 w
        cases hs : inB seq 0 4294967295 with
        | false =>
          rw [hs] at hin1
          clear hV hE hs
          go_enter Try.func32, Try.ntmps32
          go_wp2_with (go_at_call 41; go_must (first | (with_reducible refine (hin1 _).mono ?_)); rintro e w1 ⟨rfl, rfl⟩)
          go_ret2
          exact ⟨rfl, HB.out _⟩
        | true =>
          cases hp : inB epoch 0 4294967295 with
          | false =>
            rw [hs] at hin1
            rw [hp] at hin2
            clear hV hE hs hp
            go_enter Try.func32, Try.ntmps32
            go_wp2_with (go_at_call 41; go_must (first | (with_reducible refine (hin1 _).mono ?_) | (with_reducible refine (hin2 _).mono ?_)); rintro e w1 ⟨rfl, rfl⟩)
            go_ret2
            exact ⟨rfl, HB.out _⟩
          | true =>
            cases ho : inB of_ 2 30 with
            | false =>
              rw [hs] at hin1
              rw [hp] at hin2
              rw [ho] at hin3
              clear hV hE hs hp ho
              go_enter Try.func32, Try.ntmps32
              go_wp2_with (go_at_call 41; go_must (first | (with_reducible refine (hin1 _).mono ?_) | (with_reducible refine (hin2 _).mono ?_) | (with_reducible refine (hin3 _).mono ?_)); rintro e w1 ⟨rfl, rfl⟩)
              go_ret2
              exact ⟨rfl, HB.out _⟩
            | true =>
              obtain ⟨ho1, ho2⟩ := inB_iff.1 ho
              rw [hs] at hin1
              rw [hp] at hin2
              rw [ho] at hin3
              clear hV hE hs hp ho
              simp only [Bool.true_and]
              have hwo : IntKind.i64.wrap (of_ - 1) = of_ - 1 := by rw [IntKind.wrap_i64]; omega
              cases ha : at_ == of_ - 1 with
              | false =>
                go_enter Try.func32, Try.ntmps32
                go_wp2_with (go_at_call 41; go_must (first | (with_reducible refine (hin1 _).mono ?_) | (with_reducible refine (hin2 _).mono ?_) | (with_reducible refine (hin3 _).mono ?_)); rintro e w1 ⟨rfl, rfl⟩)
                go_ret2
                exact ⟨rfl, HB.out _⟩
              | true =>
                obtain rfl : at_ = of_ - 1 := by simpa using ha
                clear ha
                simp only at hnone
                obtain ⟨bn, hbn⟩ : ∃ bn, bn = noneB ⟨zone, what, bytes⟩ := ⟨_, rfl⟩
                rw [← hbn] at hnone ⊢
                clear hbn
                go_enter Try.func32, Try.ntmps32
                go_wp2_with (go_at_call 41; go_must (first | (with_reducible refine (hin1 _).mono ?_) | (with_reducible refine (hin2 _).mono ?_) | (with_reducible refine (hin3 _).mono ?_)); rintro e w1 ⟨rfl, rfl⟩)
                ((with_reducible refine (hnone _).mono ?_); rintro e w1 ⟨rfl, hB1⟩)
                go_wp2
                go_ret2
                exact ⟨rfl, (HB.out _).trans (hB1.mono (HB.out _).size)⟩
      · have hV : Hid (behV ⟨kind, seq, epoch, at_, of_, ⟨zone, what, bytes⟩⟩ (.slice a bytes.length c) = .nilIface) := Lib.hid (by simp [behV, hk0, hk1, hk2])
        have hE : Hid (behOk ⟨z, d, sp, sl, an⟩ ⟨kind, seq, epoch, at_, of_, ⟨zone, what, bytes⟩⟩ = false) := Lib.hid (by simp [behOk, hk0, hk1, hk2])
        rw [hV.out, hE.out]
        have k0 : (kind == 0) = false := by simpa using hk0
        have k1 : (kind == 1) = false := by simpa using hk1
        have k2 : (kind == 2) = false := by simpa using hk2
        clear hk0 hk1 hk2 hV hE
        have hin1 := fun w => rin_any seq 0 4294967295 w
        have hin2 := fun w => rin_any epoch 0 4294967295 w
        have hin3 := fun w => rin_any of_ 2 30 w
        go_enter Try.func32, Try.ntmps32
        go_wp2_with (go_at_call 41; go_must (first | (with_reducible refine (hin1 _).mono ?_) | (with_reducible refine (hin2 _).mono ?_) | (with_reducible refine (hin3 _).mono ?_)); rintro e w1 ⟨rfl, rfl⟩)
        all_goals
          go_ret2
          exact ⟨rfl, HB.out _⟩
end Go.Proofs.Ytpknhpfbinplgaa
end

/-
Package rec: a record's bytes as plain data; rec.Check; the sizes of a record's numbers.
-/
section
namespace Go.Proofs.Ytpknhpfbinplgaa
open Go.RowKit
attribute [local go_sem ↓] Go.wp_at_zero Go.wp_at_succ

def okR (g : Geo) (r : Rc) : Bool := okG g && behOk g r
def whatB (n : Int) : Int := if n = -1 then 254 else n
abbrev szR : List Int := [1, 4, 4, 1, 1]
def numsOf (r : Rc) : List Int := [r.kind, r.seq, r.epoch, r.at_, r.of_]
def imgB (x : Img) : List UInt8 := rowB [x.zone, whatB x.what] [1, 1] ++ (UInt8.ofNat x.bytes.length :: x.bytes)
def recB (r : Rc) : List UInt8 := rowB (numsOf r) szR ++ (if r.kind = 1 then imgB r.img else [])

theorem imgOk_parts {g : Geo} {x : Img} (h : imgOk g x = true) : okG g = true ∧ (0 ≤ x.zone ∧ x.zone ≤ g.z - 1) ∧ ((x.what = 255 ∧ ∃ l, readT g x.bytes = some l) ∨ (x.what ≠ 255 ∧ (-1 ≤ x.what ∧ x.what ≤ g.d - 1) ∧ x.bytes.length = 8)) := by
  simp only [imgOk, Bool.and_eq_true] at h
  obtain ⟨h1, h2, h3⟩ := h
  refine ⟨h1, inB_iff.1 h2, ?_⟩
  by_cases hw : x.what = 255
  · rw [if_pos hw] at h3
    exact .inl ⟨hw, Option.isSome_iff_exists.1 h3⟩
  · rw [if_neg hw] at h3
    simp only [Bool.and_eq_true, decide_eq_true_eq] at h3
    exact .inr ⟨hw, inB_iff.1 h3.1, h3.2⟩
theorem readT_len {g : Geo} {b : List UInt8} {l : List Ent} (h : readT g b = some l) : b.length = 9 * (g.d + 1).toNat := by
  unfold readT at h
  split at h
  · rename_i h2
    have := congrArg List.length h2.2
    rw [tblB_len, entsOf_len] at this
    exact this.symm
  · cases h
theorem img_short {g : Geo} {x : Img} (h : imgOk g x = true) : x.bytes.length ≤ 45 := by
  obtain ⟨h1, -, h3⟩ := imgOk_parts h
  obtain ⟨-, hd, -⟩ := okG_iff.1 h1
  rcases h3 with ⟨-, l, hl⟩ | ⟨-, -, h8⟩
  · have := readT_len hl
    omega
  · omega
theorem img_fits {g : Geo} {x : Img} (h : imgOk g x = true) : ∀ k (_ : k < [x.zone, whatB x.what].length) (b : k < [(1 : Int), 1].length), szOk [(1 : Int), 1][k] ∧ 0 ≤ [x.zone, whatB x.what][k] ∧ [x.zone, whatB x.what][k] < limS [(1 : Int), 1][k] := by
  obtain ⟨h1, h2, h3⟩ := imgOk_parts h
  obtain ⟨hz, hd, -⟩ := okG_iff.1 h1
  intro k a _
  match k, a with
  | 0, _ =>
    refine ⟨.inl rfl, h2.1, ?_⟩
    show x.zone < 256
    omega
  | 1, _ =>
    refine ⟨.inl rfl, ?_, ?_⟩
    · show 0 ≤ whatB x.what
      unfold whatB
      split <;> omega
    · show whatB x.what < 256
      unfold whatB
      split <;> omega
theorem okR_parts {g : Geo} {r : Rc} (h : okR g r = true) : okG g = true ∧
    ((r.kind = 0 ∧ r.seq = 0 ∧ r.epoch = 0 ∧ r.at_ = 0 ∧ r.of_ = 0 ∧ r.img.zone = 0 ∧ r.img.what = 0 ∧ r.img.bytes = []) ∨
     (r.kind = 1 ∧ (0 ≤ r.seq ∧ r.seq ≤ 4294967295) ∧ (0 ≤ r.epoch ∧ r.epoch ≤ 4294967295) ∧ (2 ≤ r.of_ ∧ r.of_ ≤ 30) ∧ (0 ≤ r.at_ ∧ r.at_ ≤ r.of_ - 2) ∧ imgOk g r.img = true) ∨
     (r.kind = 2 ∧ (0 ≤ r.seq ∧ r.seq ≤ 4294967295) ∧ (0 ≤ r.epoch ∧ r.epoch ≤ 4294967295) ∧ (2 ≤ r.of_ ∧ r.of_ ≤ 30) ∧ r.at_ = r.of_ - 1 ∧ r.img.zone = 0 ∧ r.img.what = 0 ∧ r.img.bytes = [])) := by
  simp only [okR, Bool.and_eq_true] at h
  refine ⟨h.1, ?_⟩
  have h2 := h.2
  unfold behOk at h2
  split at h2
  · rename_i hk
    simp [noneB] at h2
    exact .inl ⟨hk, h2.1, h2.2.1, h2.2.2.1, h2.2.2.2.1, h2.2.2.2.2.1, h2.2.2.2.2.2.1, h2.2.2.2.2.2.2⟩
  · split at h2
    · rename_i hk
      simp only [numsB, Bool.and_eq_true, inB_iff] at h2
      exact .inr (.inl ⟨hk, h2.1.1, h2.1.2.1, h2.1.2.2, h2.2.1, h2.2.2⟩)
    · split at h2
      · rename_i hk
        simp only [numsB, noneB, Bool.and_eq_true, inB_iff, beq_iff_eq] at h2
        refine .inr (.inr ⟨hk, h2.1.1, h2.1.2.1, h2.1.2.2, h2.2.1, h2.2.2.1, h2.2.2.2.1, ?_⟩)
        exact List.eq_nil_of_length_eq_zero (by omega)
      · cases h2
theorem rec_fits {g : Geo} {r : Rc} (h : okR g r = true) : ∀ k (_ : k < (numsOf r).length) (b : k < szR.length), szOk szR[k] ∧ 0 ≤ (numsOf r)[k] ∧ (numsOf r)[k] < limS szR[k] := by
  obtain ⟨-, h⟩ := okR_parts h
  intro k a _
  have e1 : limS 1 = 256 := rfl
  have e4 : limS 4 = 4294967296 := rfl
  match k, a with
  | 0, _ => exact ⟨.inl rfl, by show 0 ≤ r.kind; omega, by show r.kind < limS 1; omega⟩
  | 1, _ => exact ⟨.inr (.inr rfl), by show 0 ≤ r.seq; omega, by show r.seq < limS 4; omega⟩
  | 2, _ => exact ⟨.inr (.inr rfl), by show 0 ≤ r.epoch; omega, by show r.epoch < limS 4; omega⟩
  | 3, _ => exact ⟨.inl rfl, by show 0 ≤ r.at_; omega, by show r.at_ < limS 1; omega⟩
  | 4, _ => exact ⟨.inl rfl, by show 0 ≤ r.of_; omega, by show r.of_ < limS 1; omega⟩

theorem sizes_any (w : World) : Calls Try.prog 35 #[] w fun e w' => e = .returned (.slice (some ⟨w.heap.size, 0, none⟩) 5 5) ∧ w' = w.alloc (.cells #[.int .i64 1, .int .i64 4, .int .i64 4, .int .i64 1, .int .i64 1] 3) := by
  go_enter Try.func35, Try.ntmps35
  go_wp2
  go_ret
  exact ⟨rfl, rfl⟩

set_option maxHeartbeats 4000000 in
theorem rcheck_any (g : Geo) (r : Rc) (v : Value) (w : World) (Mi : Ms) (h : SlR w Mi v r.img.bytes) (hl : r.img.bytes.length ≤ 100000) :
    Calls Try.prog 17 #[gv g, rv r v] w fun e w' => e = .returned (errV (okR g r)) ∧ Below w.heap.size w w' := by
  obtain ⟨kind, seq, epoch, at_, of_, ⟨zone, what, bytes⟩⟩ := r
  obtain ⟨z, d, sp, sl, an⟩ := g
  simp only at h hl
  obtain ⟨a, c, rfl⟩ := h.form
  have hb1 := (Below.refl w.heap.size w).alloc (Nat.le_refl _) (.cells #[.int .i64 z, .int .i64 d, .int .i64 sp, .int .i64 sl, .int .i64 an] 23)
  have hb2 := hb1.alloc (by simp) (.cells #[.int .i64 kind, .int .i64 seq, .int .i64 epoch, .int .i64 at_, .int .i64 of_, .int .i64 zone, .int .i64 what, .slice a bytes.length c] 28)
  have hG := (Blk.new w 23 #[.int .i64 z, .int .i64 d, .int .i64 sp, .int .i64 sl, .int .i64 an]).alloc (.cells #[.int .i64 kind, .int .i64 seq, .int .i64 epoch, .int .i64 at_, .int .i64 of_, .int .i64 zone, .int .i64 what, .slice a bytes.length c] 28)
  have hbe := Lib.hid (behind_any ⟨z, d, sp, sl, an⟩ ⟨kind, seq, epoch, at_, of_, ⟨zone, what, bytes⟩⟩ (.slice a bytes.length c) _ Mi (h.mono (Keep.below hb2)) hl)
  have hE := Lib.hid (show okR ⟨z, d, sp, sl, an⟩ ⟨kind, seq, epoch, at_, of_, ⟨zone, what, bytes⟩⟩ = (okG ⟨z, d, sp, sl, an⟩ && behOk ⟨z, d, sp, sl, an⟩ ⟨kind, seq, epoch, at_, of_, ⟨zone, what, bytes⟩⟩) from rfl)
  rw [hE.out]
  obtain ⟨V, hV⟩ : ∃ V, V = behV ⟨kind, seq, epoch, at_, of_, ⟨zone, what, bytes⟩⟩ (.slice a bytes.length c) := ⟨_, rfl⟩
  rw [← hV] at hbe
  unfold gv rv at hbe ⊢
  simp only at hbe ⊢
  have HB := Lib.hid hb2
  have HG := Lib.hid hG
  clear hb1 hb2 hG hE hV h
  obtain ⟨bo, hbo⟩ : ∃ bo, bo = behOk ⟨z, d, sp, sl, an⟩ ⟨kind, seq, epoch, at_, of_, ⟨zone, what, bytes⟩⟩ := ⟨_, rfl⟩
  obtain ⟨bg, hbg⟩ : ∃ bg, bg = okG ⟨z, d, sp, sl, an⟩ := ⟨_, rfl⟩
  rw [← hbo] at hbe ⊢
  rw [← hbg]
  have hgc := fun w => gcheck_any ⟨z, d, sp, sl, an⟩ w
  rw [← hbg] at hgc
  unfold gv errV at hgc
  simp only at hgc
  clear hbo hbg
  cases bg with
  | false =>
    go_enter Try.func17, Try.ntmps17
    go_wp2_with fail
    ((with_reducible refine hbe.out.mono ?_); rintro e w1 ⟨rfl, hB1⟩)
    obtain ⟨g1, g2, g3⟩ := (HG.out.below hB1).all
    have HB1 := Lib.hid (HB.out.trans (hB1.mono HB.out.size))
    clear hB1
    go_wp2_with fail
    ((with_reducible refine (hgc _).mono ?_); rintro e w2 ⟨rfl, hB2⟩)
    have HB2 := Lib.hid (HB1.out.trans (hB2.mono HB1.out.size))
    go_wp2
    go_ret
    exact ⟨rfl, HB2.out⟩
  | true =>
    cases bo with
    | false =>
      go_enter Try.func17, Try.ntmps17
      go_wp2_with fail
      ((with_reducible refine hbe.out.mono ?_); rintro e w1 ⟨rfl, hB1⟩)
      obtain ⟨g1, g2, g3⟩ := (HG.out.below hB1).all
      have HB1 := Lib.hid (HB.out.trans (hB1.mono HB.out.size))
      clear hB1
      go_wp2_with fail
      ((with_reducible refine (hgc _).mono ?_); rintro e w2 ⟨rfl, hB2⟩)
      have HB2 := Lib.hid (HB1.out.trans (hB2.mono HB1.out.size))
      go_wp2
      go_ret
      exact ⟨rfl, HB2.out⟩
    | true =>
      go_enter Try.func17, Try.ntmps17
      go_wp2_with fail
      ((with_reducible refine hbe.out.mono ?_); rintro e w1 ⟨rfl, hB1⟩)
      obtain ⟨g1, g2, g3⟩ := (HG.out.below hB1).all
      have HB1 := Lib.hid (HB.out.trans (hB1.mono HB.out.size))
      clear hB1
      go_wp2_with fail
      ((with_reducible refine (hgc _).mono ?_); rintro e w2 ⟨rfl, hB2⟩)
      have HB2 := Lib.hid (HB1.out.trans (hB2.mono HB1.out.size))
      go_wp2
      go_ret
      exact ⟨rfl, HB2.out⟩
end Go.Proofs.Ytpknhpfbinplgaa
end

/-
rec.Bytes.
-/
section
namespace Go.Proofs.Ytpknhpfbinplgaa
open Go.RowKit
attribute [local go_sem ↓] Go.wp_at_zero Go.wp_at_succ

def RbytesP (w' : World) (base : Nat) (g : Geo) (r : Rc) (e : Ending) : Prop :=
  (okR g r = true ∧ ∃ v, e = .returned (.tuple #[v, .int .i64 0]) ∧ OwR w' noM base 5 v (recB r)) ∨ (okR g r = false ∧ e = .returned (.tuple #[.slice none 0 0, .int .i64 1]))
theorem asNilEnd (w : World) : (Instr.typeAssert .nilIface 20 76 true).run Try.prog w = .ok (.tuple #[.agg #[], .bool false]) w := by kernel_rfl
theorem asImgEnd (w : World) (v : Value) : (Instr.typeAssert (.iface 79 v) 20 76 true).run Try.prog w = .ok (.tuple #[.agg #[], .bool false]) w := by kernel_rfl
theorem asEndEnd (w : World) (v : Value) : (Instr.typeAssert (.iface 76 v) 20 76 true).run Try.prog w = .ok (.tuple #[v, .bool true]) w := by kernel_rfl
theorem asImg (w : World) (v : Value) : (Instr.typeAssert (.iface 79 v) 20 79 false).run Try.prog w = .ok v w := by kernel_rfl
attribute [local go_sem] asNilEnd asImgEnd asEndEnd asImg
theorem whatB_min : whatB (-1) = 254 := rfl
theorem imgB_len (x : Img) : (imgB x).length = 3 + x.bytes.length := by
  simp only [imgB, List.length_append, tot_rowB [x.zone, whatB x.what] [1, 1] rfl, List.length_cons]
  have : tot [1, 1] = 2 := rfl
  omega
/-- The source of a second append: newer than the row at the first one. -/
theorem app_src {w5 w7 w8 : World} {M1 : Ms} {base n5 : Nat} {e1 e7 : TypeId} {v5 v7 v8 : Value} {l5 l7 : List UInt8} (h5 : OwR w5 M1 base e1 v5 l5) (_hb : Below w5.heap.size w5 w7) (_h5' : OwR w7 M1 base e1 v5 l5) (h7 : OwR w7 noM n5 e7 v7 l7) (hn : w5.heap.size ≤ n5) (hg : w7.grownBy w8 v5.ownBlock) (hat : v8.ownBlock = v5.ownBlock ∨ v8.ownBlock = some w7.heap.size) :
    SlR w8 (fun b => noM b ∨ v8.ownBlock = some b) v7 l7 := by
  have hne : ∀ g, v7.ownBlock = some g → v5.ownBlock ≠ some g := fun g e e' => by have a1 := h5.own_lt e'; have a2 := h7.own_ge e; omega
  have h8 : OwR w8 noM n5 e7 v7 l7 := h7.keptP plU hg (by
    cases h : v7.ownBlock with
    | none => exact .inl rfl
    | some g => exact .inr fun e => hne g h e.symm)
  refine (OwR.pl plU h8).sl' fun b hb hm => hm.elim (fun h => h) fun h => ?_
  rcases hat with h' | h'
  · exact hne b hb (h'.symm.trans h)
  · have a1 := h7.own_lt hb
    rw [h'] at h
    injection h with h
    omega
theorem rowR_len (r : Rc) : (rowB (numsOf r) szR).length = 11 := by rw [tot_rowB (numsOf r) szR rfl]; rfl

set_option maxHeartbeats 4000000 in
theorem rbytes_no (g : Geo) (r : Rc) (v : Value) (w : World) (Mi : Ms) (h : SlR w Mi v r.img.bytes) (hl : r.img.bytes.length ≤ 100000) (hno : okR g r = false) :
    Calls Try.prog 9 #[gv g, rv r v] w fun e w' => RbytesP w' w.heap.size g r e ∧ Below w.heap.size w w' := by
  obtain ⟨kind, seq, epoch, at_, of_, ⟨zone, what, bytes⟩⟩ := r
  obtain ⟨z, d, sp, sl, an⟩ := g
  simp only at h hl
  obtain ⟨a, c, rfl⟩ := h.form
  have hb1 := (Below.refl w.heap.size w).alloc (Nat.le_refl _) (.cells #[.int .i64 z, .int .i64 d, .int .i64 sp, .int .i64 sl, .int .i64 an] 23)
  have hb2 := hb1.alloc (by simp) (.cells #[.int .i64 kind, .int .i64 seq, .int .i64 epoch, .int .i64 at_, .int .i64 of_, .int .i64 zone, .int .i64 what, .slice a bytes.length c] 28)
  have hG := (Blk.new w 23 #[.int .i64 z, .int .i64 d, .int .i64 sp, .int .i64 sl, .int .i64 an]).alloc (.cells #[.int .i64 kind, .int .i64 seq, .int .i64 epoch, .int .i64 at_, .int .i64 of_, .int .i64 zone, .int .i64 what, .slice a bytes.length c] 28)
  have hT := Blk.new (w.alloc (.cells #[.int .i64 z, .int .i64 d, .int .i64 sp, .int .i64 sl, .int .i64 an] 23)) 28 #[.int .i64 kind, .int .i64 seq, .int .i64 epoch, .int .i64 at_, .int .i64 of_, .int .i64 zone, .int .i64 what, .slice a bytes.length c]
  simp only [World.size_alloc] at hT
  have hbe := Lib.hid (behind_any ⟨z, d, sp, sl, an⟩ ⟨kind, seq, epoch, at_, of_, ⟨zone, what, bytes⟩⟩ (.slice a bytes.length c) _ Mi (h.mono (Keep.below hb2)) hl)
  have HB := Lib.hid hb2
  have HG := Lib.hid hG
  have HT := Lib.hid hT
  have H := Lib.hid h.bare
  clear hb1 hb2 hG hT h
  have hgc := fun w => gcheck_any ⟨z, d, sp, sl, an⟩ w
  obtain ⟨V, hV⟩ : ∃ V, V = behV ⟨kind, seq, epoch, at_, of_, ⟨zone, what, bytes⟩⟩ (.slice a bytes.length c) := ⟨_, rfl⟩
  rw [← hV] at hbe
  unfold gv rv at hbe ⊢
  unfold gv errV at hgc
  simp only at hbe hgc ⊢
  have hN := Lib.hid hno
  have hE := Lib.hid (show (okG ⟨z, d, sp, sl, an⟩ && behOk ⟨z, d, sp, sl, an⟩ ⟨kind, seq, epoch, at_, of_, ⟨zone, what, bytes⟩⟩) = false from hno)
  clear hV hno
  obtain ⟨bo, hbo⟩ : ∃ bo, bo = behOk ⟨z, d, sp, sl, an⟩ ⟨kind, seq, epoch, at_, of_, ⟨zone, what, bytes⟩⟩ := ⟨_, rfl⟩
  obtain ⟨bg, hbg⟩ : ∃ bg, bg = okG ⟨z, d, sp, sl, an⟩ := ⟨_, rfl⟩
  rw [← hbo] at hbe hE
  rw [← hbg] at hgc hE
  clear hbo hbg
  cases bg with
  | false =>
    go_enter Try.func9, Try.ntmps9
    go_wp2_with fail
    ((with_reducible refine hbe.out.mono ?_); rintro e w1 ⟨rfl, hB1⟩)
    obtain ⟨g1, g2, g3⟩ := (HG.out.below hB1).all
    have HB1 := Lib.hid (HB.out.trans (hB1.mono HB.out.size))
    clear hB1
    go_wp2_with fail
    ((with_reducible refine (hgc _).mono ?_); rintro e w2 ⟨rfl, hB2⟩)
    have HB2 := Lib.hid (HB1.out.trans (hB2.mono HB1.out.size))
    go_wp2
    go_ret2
    exact ⟨.inr ⟨hN.out, rfl⟩, HB2.out⟩
  | true =>
    obtain rfl : bo = false := by have := hE.out; simpa using this
    go_enter Try.func9, Try.ntmps9
    go_wp2_with fail
    ((with_reducible refine hbe.out.mono ?_); rintro e w1 ⟨rfl, hB1⟩)
    obtain ⟨g1, g2, g3⟩ := (HG.out.below hB1).all
    have HB1 := Lib.hid (HB.out.trans (hB1.mono HB.out.size))
    clear hB1
    go_wp2_with fail
    ((with_reducible refine (hgc _).mono ?_); rintro e w2 ⟨rfl, hB2⟩)
    have HB2 := Lib.hid (HB1.out.trans (hB2.mono HB1.out.size))
    go_wp2
    go_ret2
    exact ⟨.inr ⟨hN.out, rfl⟩, HB2.out⟩

set_option maxRecDepth 100000 in
set_option maxHeartbeats 16000000 in
theorem rbytes_0 (g : Geo) (r : Rc) (v : Value) (w : World) (Mi : Ms) (h : SlR w Mi v r.img.bytes) (hl : r.img.bytes.length ≤ 100000) (hok : okR g r = true) (hk : r.kind = 0) :
    Calls Try.prog 9 #[gv g, rv r v] w fun e w' => RbytesP w' w.heap.size g r e ∧ Below w.heap.size w w' := by
  obtain ⟨kind, seq, epoch, at_, of_, ⟨zone, what, bytes⟩⟩ := r
  obtain ⟨z, d, sp, sl, an⟩ := g
  simp only at h hl
  obtain ⟨a, c, rfl⟩ := h.form
  have hb1 := (Below.refl w.heap.size w).alloc (Nat.le_refl _) (.cells #[.int .i64 z, .int .i64 d, .int .i64 sp, .int .i64 sl, .int .i64 an] 23)
  have hb2 := hb1.alloc (by simp) (.cells #[.int .i64 kind, .int .i64 seq, .int .i64 epoch, .int .i64 at_, .int .i64 of_, .int .i64 zone, .int .i64 what, .slice a bytes.length c] 28)
  have hG := (Blk.new w 23 #[.int .i64 z, .int .i64 d, .int .i64 sp, .int .i64 sl, .int .i64 an]).alloc (.cells #[.int .i64 kind, .int .i64 seq, .int .i64 epoch, .int .i64 at_, .int .i64 of_, .int .i64 zone, .int .i64 what, .slice a bytes.length c] 28)
  have hT := Blk.new (w.alloc (.cells #[.int .i64 z, .int .i64 d, .int .i64 sp, .int .i64 sl, .int .i64 an] 23)) 28 #[.int .i64 kind, .int .i64 seq, .int .i64 epoch, .int .i64 at_, .int .i64 of_, .int .i64 zone, .int .i64 what, .slice a bytes.length c]
  simp only [World.size_alloc] at hT
  have hbe := Lib.hid (behind_any ⟨z, d, sp, sl, an⟩ ⟨kind, seq, epoch, at_, of_, ⟨zone, what, bytes⟩⟩ (.slice a bytes.length c) _ Mi (h.mono (Keep.below hb2)) hl)
  have HB := Lib.hid hb2
  have HG := Lib.hid hG
  have HT := Lib.hid hT
  have H := Lib.hid h.bare
  clear hb1 hb2 hG hT h
  have hgc := fun w => gcheck_any ⟨z, d, sp, sl, an⟩ w
  simp only at hk
  subst hk
  have hV : behV ⟨0, seq, epoch, at_, of_, ⟨zone, what, bytes⟩⟩ (.slice a bytes.length c) = .nilIface := by simp [behV]
  have hO := Lib.hid hok
  simp only [okR, Bool.and_eq_true] at hok
  rw [hV, hok.2] at hbe
  rw [hok.1] at hgc
  unfold gv rv at hbe ⊢
  unfold gv errV at hgc
  simp only [if_true] at hbe hgc ⊢
  clear hV hok
  have hfit := Lib.hid (rec_fits hO.out)
  obtain ⟨BR, hBR⟩ : ∃ BR, BR = rowB (numsOf ⟨0, seq, epoch, at_, of_, ⟨zone, what, bytes⟩⟩) szR := ⟨_, rfl⟩
  have HBR := Lib.hid hBR
  clear hBR
  go_enter Try.func9, Try.ntmps9
  go_wp2_with fail
  ((with_reducible refine hbe.out.mono ?_); rintro e w1 ⟨rfl, hB1⟩)
  obtain ⟨g1, g2, g3⟩ := (HG.out.below hB1).all
  have HB1 := Lib.hid (HB.out.trans (hB1.mono HB.out.size))
  have HT1 := Lib.hid (HT.out.below hB1)
  clear hB1
  go_wp2_with fail
  ((with_reducible refine (hgc _).mono ?_); rintro e w2 ⟨rfl, hB2⟩)
  clear g1 g2 g3
  have HB2 := Lib.hid (HB1.out.trans (hB2.mono HB1.out.size))
  have HT2 := Lib.hid (HT1.out.below hB2)
  clear hB2
  have hS := Lib.hid (show ∀ i, w2.drew.cell? ⟨w.heap.size + 1, i, none⟩ = #[.int .i64 0, .int .i64 seq, .int .i64 epoch, .int .i64 at_, .int .i64 of_, .int .i64 zone, .int .i64 what, .slice a bytes.length c][i]? from HT2.out.drew.cell)
  go_wp2_with fail
  refine rp_enter [1, 3, 5, 7, 9] (fun W => ∀ i, W.cell? ⟨w.heap.size + 1, i, none⟩ = #[.int .i64 0, .int .i64 seq, .int .i64 epoch, .int .i64 at_, .int .i64 of_, .int .i64 zone, .int .i64 what, .slice a bytes.length c][i]?) (by kernel_rfl) ?_
  apply rp_pure 0 rfl (by kernel_rfl) (fun _ _ _ h => h) rfl
  · (intro W; go_simp; try rfl)
  · (go_simp; try rfl)
  apply rp_take 1 rfl (by kernel_rfl) (fun _ _ _ h => h) (hS.out) rfl
  · (rintro W hW; go_simp; try rfl)
  · (go_simp; try rfl)
  apply rp_pure 2 rfl (by kernel_rfl) (fun _ _ _ h => h) rfl
  · (intro W; go_simp; try rfl)
  · (go_simp; try rfl)
  apply rp_take 3 rfl (by kernel_rfl) (fun _ _ _ h => h) (hS.out) rfl
  · (rintro W hW; go_simp; try rfl)
  · (go_simp; try rfl)
  apply rp_pure 4 rfl (by kernel_rfl) (fun _ _ _ h => h) rfl
  · (intro W; go_simp; try rfl)
  · (go_simp; try rfl)
  apply rp_take 5 rfl (by kernel_rfl) (fun _ _ _ h => h) (hS.out) rfl
  · (rintro W hW; go_simp; try rfl)
  · (go_simp; try rfl)
  apply rp_pure 6 rfl (by kernel_rfl) (fun _ _ _ h => h) rfl
  · (intro W; go_simp; try rfl)
  · (go_simp; try rfl)
  apply rp_take 7 rfl (by kernel_rfl) (fun _ _ _ h => h) (hS.out) rfl
  · (rintro W hW; go_simp; try rfl)
  · (go_simp; try rfl)
  apply rp_pure 8 rfl (by kernel_rfl) (fun _ _ _ h => h) rfl
  · (intro W; go_simp; try rfl)
  · (go_simp; try rfl)
  apply rp_take 9 rfl (by kernel_rfl) (fun _ _ _ h => h) (hS.out) rfl
  · (rintro W hW; go_simp; try rfl)
  · (go_simp; try rfl)
  refine rp_two 10 11 (by kernel_rfl) rfl rfl (fun K hK => ?_) (fun K hK => ?_)
  · go_simp
    have hx1 := ((Below.refl w2.heap.size w2).alloc (Nat.le_refl _) (.cells #[.int .i64 0, .int .i64 seq, .int .i64 epoch, .int .i64 at_, .int .i64 of_] 3))
    have hx2 := hx1.alloc (by simp) (.cells #[.int .i64 1, .int .i64 4, .int .i64 4, .int .i64 1, .int .i64 1] 3)
    refine hK _ _ ⟨fun _ _ => (HT2.out.below hx1.drew).cell, ?_⟩; clear hK K
    refine rp_only 11 (by kernel_rfl) rfl (fun K hK => ?_)
    go_simp
    refine (sizes_any _).mono ?_
    rintro e w3 ⟨rfl, rfl⟩
    go_simp
    refine hK _ _ ⟨fun _ _ => (HT2.out.below hx2.drew).cell, ?_⟩; clear hK K
    refine rp_only 12 (by kernel_rfl) rfl (fun K hK => ?_)
    go_simp
    have hrow := Lib.hid (row_any (.slice (some ⟨w2.heap.size, 0, none⟩) 5 5) (.slice (some ⟨w2.heap.size + 1, 0, none⟩) 5 5) (numsOf ⟨0, seq, epoch, at_, of_, ⟨zone, what, bytes⟩⟩) szR (((w2.alloc (.cells #[.int .i64 0, .int .i64 seq, .int .i64 epoch, .int .i64 at_, .int .i64 of_] 3)).alloc (.cells #[.int .i64 1, .int .i64 4, .int .i64 4, .int .i64 1, .int .i64 1] 3)).drew) noM noM noM
      ((((OwR.litI w2 noM (numsOf ⟨0, seq, epoch, at_, of_, ⟨zone, what, bytes⟩⟩) (by simp [numsOf])).alloc (.cells #[.int .i64 1, .int .i64 4, .int .i64 4, .int .i64 1, .int .i64 1] 3)).drew).sl fun _ _ h => h)
      (((by simpa using OwR.litI (w2.alloc (.cells #[.int .i64 0, .int .i64 seq, .int .i64 epoch, .int .i64 at_, .int .i64 of_] 3)) noM szR (by simp)) : OwR ((w2.alloc (.cells #[.int .i64 0, .int .i64 seq, .int .i64 epoch, .int .i64 at_, .int .i64 of_] 3)).alloc (.cells #[.int .i64 1, .int .i64 4, .int .i64 4, .int .i64 1, .int .i64 1] 3)) noM (w2.heap.size + 1) 3 (.slice (some ⟨w2.heap.size + 1, 0, none⟩) 5 5) szR).drew.sl fun _ _ h => h) rfl (by simp [numsOf]) hfit.out)
    rw [← HBR.out] at hrow
    ((with_reducible refine hrow.out.mono ?_); rintro e w5 ⟨r5, rfl, ho5, hB5⟩)
    have HO5 := Lib.hid (And.intro (ho5.mono_base (base' := w.heap.size) (Nat.le_trans HB2.out.size hx2.drew.size)) (HB2.out.trans ((hx2.drew.trans (hB5.mono hx2.drew.size)).mono HB2.out.size)))
    have HT5 := Lib.hid ((HT2.out.below hx2.drew).below hB5)
    clear hrow ho5 hB5 hx1 hx2
    refine hK _ _ ⟨fun _ _ => HT5.out.cell, ?_⟩; clear hK K
    apply rp_pure 13 rfl (by kernel_rfl) (fun _ _ _ h => h) rfl
    · (intro W; go_simp; try rfl)
    · (go_simp; try rfl)
    apply rp_pure 14 rfl (by kernel_rfl) (fun _ _ _ h => h) rfl
    · (intro W; go_simp; try rfl)
    · (go_simp; try rfl)
    apply rp_pure 15 rfl (by kernel_rfl) (fun _ _ _ h => h) rfl
    · (intro W; go_simp; try rfl)
    · (go_simp; try rfl)
    apply rp_pure 16 rfl (by kernel_rfl) (fun _ _ _ h => h) rfl
    · (intro W; go_simp; try rfl)
    · (go_simp; try rfl)
    apply rp_pure 17 rfl (by kernel_rfl) (fun _ _ _ h => h) rfl
    · (intro W; go_simp; try rfl)
    · (go_simp; try rfl)
    refine rp_done (by kernel_rfl) ?_
    go_wp2
    go_ret2
    refine ⟨.inl ⟨hO.out, _, rfl, ?_⟩, HO5.out.2.trans (((Below.refl w5.heap.size w5).alloc (Nat.le_refl _) _).mono HO5.out.2.size)⟩
    have hf := HO5.out.1.alloc (.cells #[] 76)
    rw [HBR.out] at hf
    simpa [recB] using hf
  · go_simp
    refine (sizes_any _).mono ?_
    rintro e w3 ⟨rfl, rfl⟩
    go_simp
    have hx1 := ((Below.refl w2.heap.size w2).alloc (Nat.le_refl _) (.cells #[.int .i64 1, .int .i64 4, .int .i64 4, .int .i64 1, .int .i64 1] 3))
    have hx2 := hx1.alloc (by simp) (.cells #[.int .i64 0, .int .i64 seq, .int .i64 epoch, .int .i64 at_, .int .i64 of_] 3)
    refine hK _ _ ⟨fun _ _ => (HT2.out.below hx1.drew).cell, ?_⟩; clear hK K
    refine rp_only 10 (by kernel_rfl) rfl (fun K hK => ?_)
    go_simp
    refine hK _ _ ⟨fun _ _ => (HT2.out.below hx2.drew).cell, ?_⟩; clear hK K
    refine rp_only 12 (by kernel_rfl) rfl (fun K hK => ?_)
    go_simp
    have hrow := Lib.hid (row_any (.slice (some ⟨w2.heap.size + 1, 0, none⟩) 5 5) (.slice (some ⟨w2.heap.size, 0, none⟩) 5 5) (numsOf ⟨0, seq, epoch, at_, of_, ⟨zone, what, bytes⟩⟩) szR (((w2.alloc (.cells #[.int .i64 1, .int .i64 4, .int .i64 4, .int .i64 1, .int .i64 1] 3)).alloc (.cells #[.int .i64 0, .int .i64 seq, .int .i64 epoch, .int .i64 at_, .int .i64 of_] 3)).drew) noM noM noM
      (((by simpa [numsOf] using OwR.litI (w2.alloc (.cells #[.int .i64 1, .int .i64 4, .int .i64 4, .int .i64 1, .int .i64 1] 3)) noM (numsOf ⟨0, seq, epoch, at_, of_, ⟨zone, what, bytes⟩⟩) (by simp [numsOf])) : OwR ((w2.alloc (.cells #[.int .i64 1, .int .i64 4, .int .i64 4, .int .i64 1, .int .i64 1] 3)).alloc (.cells #[.int .i64 0, .int .i64 seq, .int .i64 epoch, .int .i64 at_, .int .i64 of_] 3)) noM (w2.heap.size + 1) 3 (.slice (some ⟨w2.heap.size + 1, 0, none⟩) 5 5) (numsOf ⟨0, seq, epoch, at_, of_, ⟨zone, what, bytes⟩⟩)).drew.sl fun _ _ h => h)
      ((((OwR.litI w2 noM szR (by simp)).alloc (.cells #[.int .i64 0, .int .i64 seq, .int .i64 epoch, .int .i64 at_, .int .i64 of_] 3)).drew).sl fun _ _ h => h) rfl (by simp [numsOf]) hfit.out)
    rw [← HBR.out] at hrow
    ((with_reducible refine hrow.out.mono ?_); rintro e w5 ⟨r5, rfl, ho5, hB5⟩)
    have HO5 := Lib.hid (And.intro (ho5.mono_base (base' := w.heap.size) (Nat.le_trans HB2.out.size hx2.drew.size)) (HB2.out.trans ((hx2.drew.trans (hB5.mono hx2.drew.size)).mono HB2.out.size)))
    have HT5 := Lib.hid ((HT2.out.below hx2.drew).below hB5)
    clear hrow ho5 hB5 hx1 hx2
    refine hK _ _ ⟨fun _ _ => HT5.out.cell, ?_⟩; clear hK K
    apply rp_pure 13 rfl (by kernel_rfl) (fun _ _ _ h => h) rfl
    · (intro W; go_simp; try rfl)
    · (go_simp; try rfl)
    apply rp_pure 14 rfl (by kernel_rfl) (fun _ _ _ h => h) rfl
    · (intro W; go_simp; try rfl)
    · (go_simp; try rfl)
    apply rp_pure 15 rfl (by kernel_rfl) (fun _ _ _ h => h) rfl
    · (intro W; go_simp; try rfl)
    · (go_simp; try rfl)
    apply rp_pure 16 rfl (by kernel_rfl) (fun _ _ _ h => h) rfl
    · (intro W; go_simp; try rfl)
    · (go_simp; try rfl)
    apply rp_pure 17 rfl (by kernel_rfl) (fun _ _ _ h => h) rfl
    · (intro W; go_simp; try rfl)
    · (go_simp; try rfl)
    refine rp_done (by kernel_rfl) ?_
    go_wp2
    go_ret2
    refine ⟨.inl ⟨hO.out, _, rfl, ?_⟩, HO5.out.2.trans (((Below.refl w5.heap.size w5).alloc (Nat.le_refl _) _).mono HO5.out.2.size)⟩
    have hf := HO5.out.1.alloc (.cells #[] 76)
    rw [HBR.out] at hf
    simpa [recB] using hf
set_option maxRecDepth 100000 in
set_option maxHeartbeats 16000000 in
theorem rbytes_2 (g : Geo) (r : Rc) (v : Value) (w : World) (Mi : Ms) (h : SlR w Mi v r.img.bytes) (hl : r.img.bytes.length ≤ 100000) (hok : okR g r = true) (hk : r.kind = 2) :
    Calls Try.prog 9 #[gv g, rv r v] w fun e w' => RbytesP w' w.heap.size g r e ∧ Below w.heap.size w w' := by
  obtain ⟨kind, seq, epoch, at_, of_, ⟨zone, what, bytes⟩⟩ := r
  obtain ⟨z, d, sp, sl, an⟩ := g
  simp only at h hl
  obtain ⟨a, c, rfl⟩ := h.form
  have hb1 := (Below.refl w.heap.size w).alloc (Nat.le_refl _) (.cells #[.int .i64 z, .int .i64 d, .int .i64 sp, .int .i64 sl, .int .i64 an] 23)
  have hb2 := hb1.alloc (by simp) (.cells #[.int .i64 kind, .int .i64 seq, .int .i64 epoch, .int .i64 at_, .int .i64 of_, .int .i64 zone, .int .i64 what, .slice a bytes.length c] 28)
  have hG := (Blk.new w 23 #[.int .i64 z, .int .i64 d, .int .i64 sp, .int .i64 sl, .int .i64 an]).alloc (.cells #[.int .i64 kind, .int .i64 seq, .int .i64 epoch, .int .i64 at_, .int .i64 of_, .int .i64 zone, .int .i64 what, .slice a bytes.length c] 28)
  have hT := Blk.new (w.alloc (.cells #[.int .i64 z, .int .i64 d, .int .i64 sp, .int .i64 sl, .int .i64 an] 23)) 28 #[.int .i64 kind, .int .i64 seq, .int .i64 epoch, .int .i64 at_, .int .i64 of_, .int .i64 zone, .int .i64 what, .slice a bytes.length c]
  simp only [World.size_alloc] at hT
  have hbe := Lib.hid (behind_any ⟨z, d, sp, sl, an⟩ ⟨kind, seq, epoch, at_, of_, ⟨zone, what, bytes⟩⟩ (.slice a bytes.length c) _ Mi (h.mono (Keep.below hb2)) hl)
  have HB := Lib.hid hb2
  have HG := Lib.hid hG
  have HT := Lib.hid hT
  have H := Lib.hid h.bare
  clear hb1 hb2 hG hT h
  have hgc := fun w => gcheck_any ⟨z, d, sp, sl, an⟩ w
  simp only at hk
  subst hk
  have hV : behV ⟨2, seq, epoch, at_, of_, ⟨zone, what, bytes⟩⟩ (.slice a bytes.length c) = .iface 76 (.agg #[]) := by simp [behV]
  have hO := Lib.hid hok
  simp only [okR, Bool.and_eq_true] at hok
  rw [hV, hok.2] at hbe
  rw [hok.1] at hgc
  unfold gv rv at hbe ⊢
  unfold gv errV at hgc
  simp only [if_true] at hbe hgc ⊢
  clear hV hok
  have hfit := Lib.hid (rec_fits hO.out)
  obtain ⟨BR, hBR⟩ : ∃ BR, BR = rowB (numsOf ⟨2, seq, epoch, at_, of_, ⟨zone, what, bytes⟩⟩) szR := ⟨_, rfl⟩
  have HBR := Lib.hid hBR
  clear hBR
  go_enter Try.func9, Try.ntmps9
  go_wp2_with fail
  ((with_reducible refine hbe.out.mono ?_); rintro e w1 ⟨rfl, hB1⟩)
  obtain ⟨g1, g2, g3⟩ := (HG.out.below hB1).all
  have HB1 := Lib.hid (HB.out.trans (hB1.mono HB.out.size))
  have HT1 := Lib.hid (HT.out.below hB1)
  clear hB1
  go_wp2_with fail
  ((with_reducible refine (hgc _).mono ?_); rintro e w2 ⟨rfl, hB2⟩)
  clear g1 g2 g3
  have HB2 := Lib.hid (HB1.out.trans (hB2.mono HB1.out.size))
  have HT2 := Lib.hid (HT1.out.below hB2)
  clear hB2
  have hS := Lib.hid (show ∀ i, w2.drew.cell? ⟨w.heap.size + 1, i, none⟩ = #[.int .i64 2, .int .i64 seq, .int .i64 epoch, .int .i64 at_, .int .i64 of_, .int .i64 zone, .int .i64 what, .slice a bytes.length c][i]? from HT2.out.drew.cell)
  go_wp2_with fail
  refine rp_enter [1, 3, 5, 7, 9] (fun W => ∀ i, W.cell? ⟨w.heap.size + 1, i, none⟩ = #[.int .i64 2, .int .i64 seq, .int .i64 epoch, .int .i64 at_, .int .i64 of_, .int .i64 zone, .int .i64 what, .slice a bytes.length c][i]?) (by kernel_rfl) ?_
  apply rp_pure 0 rfl (by kernel_rfl) (fun _ _ _ h => h) rfl
  · (intro W; go_simp; try rfl)
  · (go_simp; try rfl)
  apply rp_take 1 rfl (by kernel_rfl) (fun _ _ _ h => h) (hS.out) rfl
  · (rintro W hW; go_simp; try rfl)
  · (go_simp; try rfl)
  apply rp_pure 2 rfl (by kernel_rfl) (fun _ _ _ h => h) rfl
  · (intro W; go_simp; try rfl)
  · (go_simp; try rfl)
  apply rp_take 3 rfl (by kernel_rfl) (fun _ _ _ h => h) (hS.out) rfl
  · (rintro W hW; go_simp; try rfl)
  · (go_simp; try rfl)
  apply rp_pure 4 rfl (by kernel_rfl) (fun _ _ _ h => h) rfl
  · (intro W; go_simp; try rfl)
  · (go_simp; try rfl)
  apply rp_take 5 rfl (by kernel_rfl) (fun _ _ _ h => h) (hS.out) rfl
  · (rintro W hW; go_simp; try rfl)
  · (go_simp; try rfl)
  apply rp_pure 6 rfl (by kernel_rfl) (fun _ _ _ h => h) rfl
  · (intro W; go_simp; try rfl)
  · (go_simp; try rfl)
  apply rp_take 7 rfl (by kernel_rfl) (fun _ _ _ h => h) (hS.out) rfl
  · (rintro W hW; go_simp; try rfl)
  · (go_simp; try rfl)
  apply rp_pure 8 rfl (by kernel_rfl) (fun _ _ _ h => h) rfl
  · (intro W; go_simp; try rfl)
  · (go_simp; try rfl)
  apply rp_take 9 rfl (by kernel_rfl) (fun _ _ _ h => h) (hS.out) rfl
  · (rintro W hW; go_simp; try rfl)
  · (go_simp; try rfl)
  refine rp_two 10 11 (by kernel_rfl) rfl rfl (fun K hK => ?_) (fun K hK => ?_)
  · go_simp
    have hx1 := ((Below.refl w2.heap.size w2).alloc (Nat.le_refl _) (.cells #[.int .i64 2, .int .i64 seq, .int .i64 epoch, .int .i64 at_, .int .i64 of_] 3))
    have hx2 := hx1.alloc (by simp) (.cells #[.int .i64 1, .int .i64 4, .int .i64 4, .int .i64 1, .int .i64 1] 3)
    refine hK _ _ ⟨fun _ _ => (HT2.out.below hx1.drew).cell, ?_⟩; clear hK K
    refine rp_only 11 (by kernel_rfl) rfl (fun K hK => ?_)
    go_simp
    refine (sizes_any _).mono ?_
    rintro e w3 ⟨rfl, rfl⟩
    go_simp
    refine hK _ _ ⟨fun _ _ => (HT2.out.below hx2.drew).cell, ?_⟩; clear hK K
    refine rp_only 12 (by kernel_rfl) rfl (fun K hK => ?_)
    go_simp
    have hrow := Lib.hid (row_any (.slice (some ⟨w2.heap.size, 0, none⟩) 5 5) (.slice (some ⟨w2.heap.size + 1, 0, none⟩) 5 5) (numsOf ⟨2, seq, epoch, at_, of_, ⟨zone, what, bytes⟩⟩) szR (((w2.alloc (.cells #[.int .i64 2, .int .i64 seq, .int .i64 epoch, .int .i64 at_, .int .i64 of_] 3)).alloc (.cells #[.int .i64 1, .int .i64 4, .int .i64 4, .int .i64 1, .int .i64 1] 3)).drew) noM noM noM
      ((((OwR.litI w2 noM (numsOf ⟨2, seq, epoch, at_, of_, ⟨zone, what, bytes⟩⟩) (by simp [numsOf])).alloc (.cells #[.int .i64 1, .int .i64 4, .int .i64 4, .int .i64 1, .int .i64 1] 3)).drew).sl fun _ _ h => h)
      (((by simpa using OwR.litI (w2.alloc (.cells #[.int .i64 2, .int .i64 seq, .int .i64 epoch, .int .i64 at_, .int .i64 of_] 3)) noM szR (by simp)) : OwR ((w2.alloc (.cells #[.int .i64 2, .int .i64 seq, .int .i64 epoch, .int .i64 at_, .int .i64 of_] 3)).alloc (.cells #[.int .i64 1, .int .i64 4, .int .i64 4, .int .i64 1, .int .i64 1] 3)) noM (w2.heap.size + 1) 3 (.slice (some ⟨w2.heap.size + 1, 0, none⟩) 5 5) szR).drew.sl fun _ _ h => h) rfl (by simp [numsOf]) hfit.out)
    rw [← HBR.out] at hrow
    ((with_reducible refine hrow.out.mono ?_); rintro e w5 ⟨r5, rfl, ho5, hB5⟩)
    have HO5 := Lib.hid (And.intro (ho5.mono_base (base' := w.heap.size) (Nat.le_trans HB2.out.size hx2.drew.size)) (HB2.out.trans ((hx2.drew.trans (hB5.mono hx2.drew.size)).mono HB2.out.size)))
    have HT5 := Lib.hid ((HT2.out.below hx2.drew).below hB5)
    clear hrow ho5 hB5 hx1 hx2
    refine hK _ _ ⟨fun _ _ => HT5.out.cell, ?_⟩; clear hK K
    apply rp_pure 13 rfl (by kernel_rfl) (fun _ _ _ h => h) rfl
    · (intro W; go_simp; try rfl)
    · (go_simp; try rfl)
    apply rp_pure 14 rfl (by kernel_rfl) (fun _ _ _ h => h) rfl
    · (intro W; go_simp; try rfl)
    · (go_simp; try rfl)
    apply rp_pure 15 rfl (by kernel_rfl) (fun _ _ _ h => h) rfl
    · (intro W; go_simp; try rfl)
    · (go_simp; try rfl)
    apply rp_pure 16 rfl (by kernel_rfl) (fun _ _ _ h => h) rfl
    · (intro W; go_simp; try rfl)
    · (go_simp; try rfl)
    apply rp_pure 17 rfl (by kernel_rfl) (fun _ _ _ h => h) rfl
    · (intro W; go_simp; try rfl)
    · (go_simp; try rfl)
    refine rp_done (by kernel_rfl) ?_
    go_wp2
    go_ret2
    refine ⟨.inl ⟨hO.out, _, rfl, ?_⟩, HO5.out.2.trans (((Below.refl w5.heap.size w5).alloc (Nat.le_refl _) _).mono HO5.out.2.size)⟩
    have hf := HO5.out.1.alloc (.cells #[] 76)
    rw [HBR.out] at hf
    simpa [recB] using hf
  · go_simp
    refine (sizes_any _).mono ?_
    rintro e w3 ⟨rfl, rfl⟩
    go_simp
    have hx1 := ((Below.refl w2.heap.size w2).alloc (Nat.le_refl _) (.cells #[.int .i64 1, .int .i64 4, .int .i64 4, .int .i64 1, .int .i64 1] 3))
    have hx2 := hx1.alloc (by simp) (.cells #[.int .i64 2, .int .i64 seq, .int .i64 epoch, .int .i64 at_, .int .i64 of_] 3)
    refine hK _ _ ⟨fun _ _ => (HT2.out.below hx1.drew).cell, ?_⟩; clear hK K
    refine rp_only 10 (by kernel_rfl) rfl (fun K hK => ?_)
    go_simp
    refine hK _ _ ⟨fun _ _ => (HT2.out.below hx2.drew).cell, ?_⟩; clear hK K
    refine rp_only 12 (by kernel_rfl) rfl (fun K hK => ?_)
    go_simp
    have hrow := Lib.hid (row_any (.slice (some ⟨w2.heap.size + 1, 0, none⟩) 5 5) (.slice (some ⟨w2.heap.size, 0, none⟩) 5 5) (numsOf ⟨2, seq, epoch, at_, of_, ⟨zone, what, bytes⟩⟩) szR (((w2.alloc (.cells #[.int .i64 1, .int .i64 4, .int .i64 4, .int .i64 1, .int .i64 1] 3)).alloc (.cells #[.int .i64 2, .int .i64 seq, .int .i64 epoch, .int .i64 at_, .int .i64 of_] 3)).drew) noM noM noM
      (((by simpa [numsOf] using OwR.litI (w2.alloc (.cells #[.int .i64 1, .int .i64 4, .int .i64 4, .int .i64 1, .int .i64 1] 3)) noM (numsOf ⟨2, seq, epoch, at_, of_, ⟨zone, what, bytes⟩⟩) (by simp [numsOf])) : OwR ((w2.alloc (.cells #[.int .i64 1, .int .i64 4, .int .i64 4, .int .i64 1, .int .i64 1] 3)).alloc (.cells #[.int .i64 2, .int .i64 seq, .int .i64 epoch, .int .i64 at_, .int .i64 of_] 3)) noM (w2.heap.size + 1) 3 (.slice (some ⟨w2.heap.size + 1, 0, none⟩) 5 5) (numsOf ⟨2, seq, epoch, at_, of_, ⟨zone, what, bytes⟩⟩)).drew.sl fun _ _ h => h)
      ((((OwR.litI w2 noM szR (by simp)).alloc (.cells #[.int .i64 2, .int .i64 seq, .int .i64 epoch, .int .i64 at_, .int .i64 of_] 3)).drew).sl fun _ _ h => h) rfl (by simp [numsOf]) hfit.out)
    rw [← HBR.out] at hrow
    ((with_reducible refine hrow.out.mono ?_); rintro e w5 ⟨r5, rfl, ho5, hB5⟩)
    have HO5 := Lib.hid (And.intro (ho5.mono_base (base' := w.heap.size) (Nat.le_trans HB2.out.size hx2.drew.size)) (HB2.out.trans ((hx2.drew.trans (hB5.mono hx2.drew.size)).mono HB2.out.size)))
    have HT5 := Lib.hid ((HT2.out.below hx2.drew).below hB5)
    clear hrow ho5 hB5 hx1 hx2
    refine hK _ _ ⟨fun _ _ => HT5.out.cell, ?_⟩; clear hK K
    apply rp_pure 13 rfl (by kernel_rfl) (fun _ _ _ h => h) rfl
    · (intro W; go_simp; try rfl)
    · (go_simp; try rfl)
    apply rp_pure 14 rfl (by kernel_rfl) (fun _ _ _ h => h) rfl
    · (intro W; go_simp; try rfl)
    · (go_simp; try rfl)
    apply rp_pure 15 rfl (by kernel_rfl) (fun _ _ _ h => h) rfl
    · (intro W; go_simp; try rfl)
    · (go_simp; try rfl)
    apply rp_pure 16 rfl (by kernel_rfl) (fun _ _ _ h => h) rfl
    · (intro W; go_simp; try rfl)
    · (go_simp; try rfl)
    apply rp_pure 17 rfl (by kernel_rfl) (fun _ _ _ h => h) rfl
    · (intro W; go_simp; try rfl)
    · (go_simp; try rfl)
    refine rp_done (by kernel_rfl) ?_
    go_wp2
    go_ret2
    refine ⟨.inl ⟨hO.out, _, rfl, ?_⟩, HO5.out.2.trans (((Below.refl w5.heap.size w5).alloc (Nat.le_refl _) _).mono HO5.out.2.size)⟩
    have hf := HO5.out.1.alloc (.cells #[] 76)
    rw [HBR.out] at hf
    simpa [recB] using hf
set_option maxRecDepth 100000 in
set_option maxHeartbeats 16000000 in
theorem rbytes_1 (g : Geo) (r : Rc) (v : Value) (w : World) (Mi : Ms) (h : SlR w Mi v r.img.bytes) (hl : r.img.bytes.length ≤ 100000) (hok : okR g r = true) (hk : r.kind = 1) :
    Calls Try.prog 9 #[gv g, rv r v] w fun e w' => RbytesP w' w.heap.size g r e ∧ Below w.heap.size w w' := by
  obtain ⟨kind, seq, epoch, at_, of_, ⟨zone, what, bytes⟩⟩ := r
  obtain ⟨z, d, sp, sl, an⟩ := g
  simp only at h hl
  obtain ⟨a, c, rfl⟩ := h.form
  have hb1 := (Below.refl w.heap.size w).alloc (Nat.le_refl _) (.cells #[.int .i64 z, .int .i64 d, .int .i64 sp, .int .i64 sl, .int .i64 an] 23)
  have hb2 := hb1.alloc (by simp) (.cells #[.int .i64 kind, .int .i64 seq, .int .i64 epoch, .int .i64 at_, .int .i64 of_, .int .i64 zone, .int .i64 what, .slice a bytes.length c] 28)
  have hG := (Blk.new w 23 #[.int .i64 z, .int .i64 d, .int .i64 sp, .int .i64 sl, .int .i64 an]).alloc (.cells #[.int .i64 kind, .int .i64 seq, .int .i64 epoch, .int .i64 at_, .int .i64 of_, .int .i64 zone, .int .i64 what, .slice a bytes.length c] 28)
  have hT := Blk.new (w.alloc (.cells #[.int .i64 z, .int .i64 d, .int .i64 sp, .int .i64 sl, .int .i64 an] 23)) 28 #[.int .i64 kind, .int .i64 seq, .int .i64 epoch, .int .i64 at_, .int .i64 of_, .int .i64 zone, .int .i64 what, .slice a bytes.length c]
  simp only [World.size_alloc] at hT
  have hbe := Lib.hid (behind_any ⟨z, d, sp, sl, an⟩ ⟨kind, seq, epoch, at_, of_, ⟨zone, what, bytes⟩⟩ (.slice a bytes.length c) _ Mi (h.mono (Keep.below hb2)) hl)
  have HB := Lib.hid hb2
  have HG := Lib.hid hG
  have HT := Lib.hid hT
  have H := Lib.hid h.bare
  clear hb1 hb2 hG hT h
  have hgc := fun w => gcheck_any ⟨z, d, sp, sl, an⟩ w
  simp only at hk
  subst hk
  have hV : behV ⟨1, seq, epoch, at_, of_, ⟨zone, what, bytes⟩⟩ (.slice a bytes.length c) = .iface 79 (.agg #[.int .i64 zone, .int .i64 what, .slice a bytes.length c]) := by simp [behV]
  have hO := Lib.hid hok
  simp only [okR, Bool.and_eq_true] at hok
  rw [hV, hok.2] at hbe
  rw [hok.1] at hgc
  unfold gv rv at hbe ⊢
  unfold gv errV at hgc
  simp only [if_true] at hbe hgc ⊢
  clear hV hok
  have hfit := Lib.hid (rec_fits hO.out)
  obtain ⟨BR, hBR⟩ : ∃ BR, BR = rowB (numsOf ⟨1, seq, epoch, at_, of_, ⟨zone, what, bytes⟩⟩) szR := ⟨_, rfl⟩
  have HBR := Lib.hid hBR
  clear hBR
  go_enter Try.func9, Try.ntmps9
  go_wp2_with fail
  ((with_reducible refine hbe.out.mono ?_); rintro e w1 ⟨rfl, hB1⟩)
  obtain ⟨g1, g2, g3⟩ := (HG.out.below hB1).all
  have HB1 := Lib.hid (HB.out.trans (hB1.mono HB.out.size))
  have HT1 := Lib.hid (HT.out.below hB1)
  clear hB1
  go_wp2_with fail
  ((with_reducible refine (hgc _).mono ?_); rintro e w2 ⟨rfl, hB2⟩)
  clear g1 g2 g3
  have HB2 := Lib.hid (HB1.out.trans (hB2.mono HB1.out.size))
  have HT2 := Lib.hid (HT1.out.below hB2)
  clear hB2
  have hS := Lib.hid (show ∀ i, w2.drew.cell? ⟨w.heap.size + 1, i, none⟩ = #[.int .i64 1, .int .i64 seq, .int .i64 epoch, .int .i64 at_, .int .i64 of_, .int .i64 zone, .int .i64 what, .slice a bytes.length c][i]? from HT2.out.drew.cell)
  go_wp2_with fail
  refine rp_enter [1, 3, 5, 7, 9] (fun W => ∀ i, W.cell? ⟨w.heap.size + 1, i, none⟩ = #[.int .i64 1, .int .i64 seq, .int .i64 epoch, .int .i64 at_, .int .i64 of_, .int .i64 zone, .int .i64 what, .slice a bytes.length c][i]?) (by kernel_rfl) ?_
  apply rp_pure 0 rfl (by kernel_rfl) (fun _ _ _ h => h) rfl
  · (intro W; go_simp; try rfl)
  · (go_simp; try rfl)
  apply rp_take 1 rfl (by kernel_rfl) (fun _ _ _ h => h) (hS.out) rfl
  · (rintro W hW; go_simp; try rfl)
  · (go_simp; try rfl)
  apply rp_pure 2 rfl (by kernel_rfl) (fun _ _ _ h => h) rfl
  · (intro W; go_simp; try rfl)
  · (go_simp; try rfl)
  apply rp_take 3 rfl (by kernel_rfl) (fun _ _ _ h => h) (hS.out) rfl
  · (rintro W hW; go_simp; try rfl)
  · (go_simp; try rfl)
  apply rp_pure 4 rfl (by kernel_rfl) (fun _ _ _ h => h) rfl
  · (intro W; go_simp; try rfl)
  · (go_simp; try rfl)
  apply rp_take 5 rfl (by kernel_rfl) (fun _ _ _ h => h) (hS.out) rfl
  · (rintro W hW; go_simp; try rfl)
  · (go_simp; try rfl)
  apply rp_pure 6 rfl (by kernel_rfl) (fun _ _ _ h => h) rfl
  · (intro W; go_simp; try rfl)
  · (go_simp; try rfl)
  apply rp_take 7 rfl (by kernel_rfl) (fun _ _ _ h => h) (hS.out) rfl
  · (rintro W hW; go_simp; try rfl)
  · (go_simp; try rfl)
  apply rp_pure 8 rfl (by kernel_rfl) (fun _ _ _ h => h) rfl
  · (intro W; go_simp; try rfl)
  · (go_simp; try rfl)
  apply rp_take 9 rfl (by kernel_rfl) (fun _ _ _ h => h) (hS.out) rfl
  · (rintro W hW; go_simp; try rfl)
  · (go_simp; try rfl)
  refine rp_two 10 11 (by kernel_rfl) rfl rfl (fun K hK => ?_) (fun K hK => ?_)
  · go_simp
    have hx1 := ((Below.refl w2.heap.size w2).alloc (Nat.le_refl _) (.cells #[.int .i64 1, .int .i64 seq, .int .i64 epoch, .int .i64 at_, .int .i64 of_] 3))
    have hx2 := hx1.alloc (by simp) (.cells #[.int .i64 1, .int .i64 4, .int .i64 4, .int .i64 1, .int .i64 1] 3)
    refine hK _ _ ⟨fun _ _ => (HT2.out.below hx1.drew).cell, ?_⟩; clear hK K
    refine rp_only 11 (by kernel_rfl) rfl (fun K hK => ?_)
    go_simp
    refine (sizes_any _).mono ?_
    rintro e w3 ⟨rfl, rfl⟩
    go_simp
    refine hK _ _ ⟨fun _ _ => (HT2.out.below hx2.drew).cell, ?_⟩; clear hK K
    refine rp_only 12 (by kernel_rfl) rfl (fun K hK => ?_)
    go_simp
    have hrow := Lib.hid (row_any (.slice (some ⟨w2.heap.size, 0, none⟩) 5 5) (.slice (some ⟨w2.heap.size + 1, 0, none⟩) 5 5) (numsOf ⟨1, seq, epoch, at_, of_, ⟨zone, what, bytes⟩⟩) szR (((w2.alloc (.cells #[.int .i64 1, .int .i64 seq, .int .i64 epoch, .int .i64 at_, .int .i64 of_] 3)).alloc (.cells #[.int .i64 1, .int .i64 4, .int .i64 4, .int .i64 1, .int .i64 1] 3)).drew) noM noM noM
      ((((OwR.litI w2 noM (numsOf ⟨1, seq, epoch, at_, of_, ⟨zone, what, bytes⟩⟩) (by simp [numsOf])).alloc (.cells #[.int .i64 1, .int .i64 4, .int .i64 4, .int .i64 1, .int .i64 1] 3)).drew).sl fun _ _ h => h)
      (((by simpa using OwR.litI (w2.alloc (.cells #[.int .i64 1, .int .i64 seq, .int .i64 epoch, .int .i64 at_, .int .i64 of_] 3)) noM szR (by simp)) : OwR ((w2.alloc (.cells #[.int .i64 1, .int .i64 seq, .int .i64 epoch, .int .i64 at_, .int .i64 of_] 3)).alloc (.cells #[.int .i64 1, .int .i64 4, .int .i64 4, .int .i64 1, .int .i64 1] 3)) noM (w2.heap.size + 1) 3 (.slice (some ⟨w2.heap.size + 1, 0, none⟩) 5 5) szR).drew.sl fun _ _ h => h) rfl (by simp [numsOf]) hfit.out)
    rw [← HBR.out] at hrow
    ((with_reducible refine hrow.out.mono ?_); rintro e w5 ⟨r5, rfl, ho5, hB5⟩)
    have HO5 := Lib.hid (And.intro (ho5.mono_base (base' := w.heap.size) (Nat.le_trans HB2.out.size hx2.drew.size)) (HB2.out.trans ((hx2.drew.trans (hB5.mono hx2.drew.size)).mono HB2.out.size)))
    have HT5 := Lib.hid ((HT2.out.below hx2.drew).below hB5)
    clear hrow ho5 hB5 hx1 hx2
    refine hK _ _ ⟨fun _ _ => HT5.out.cell, ?_⟩; clear hK K
    apply rp_pure 13 rfl (by kernel_rfl) (fun _ _ _ h => h) rfl
    · (intro W; go_simp; try rfl)
    · (go_simp; try rfl)
    apply rp_pure 14 rfl (by kernel_rfl) (fun _ _ _ h => h) rfl
    · (intro W; go_simp; try rfl)
    · (go_simp; try rfl)
    apply rp_pure 15 rfl (by kernel_rfl) (fun _ _ _ h => h) rfl
    · (intro W; go_simp; try rfl)
    · (go_simp; try rfl)
    apply rp_pure 16 rfl (by kernel_rfl) (fun _ _ _ h => h) rfl
    · (intro W; go_simp; try rfl)
    · (go_simp; try rfl)
    apply rp_pure 17 rfl (by kernel_rfl) (fun _ _ _ h => h) rfl
    · (intro W; go_simp; try rfl)
    · (go_simp; try rfl)
    refine rp_done (by kernel_rfl) ?_
    have hA := (Below.refl w5.heap.size w5).alloc (Nat.le_refl _) (.cells #[] 76)
    have hAB := hA.alloc (by simp) (.cells #[.int .i64 zone, .int .i64 what, .slice a bytes.length c] 79)
    have hI := Blk.new (w5.alloc (.cells #[] 76)) 79 #[.int .i64 zone, .int .i64 what, .slice a bytes.length c]
    simp only [World.size_alloc] at hI
    have him : imgOk ⟨z, d, sp, sl, an⟩ ⟨zone, what, bytes⟩ = true := by
      rcases (okR_parts hO.out).2 with h | h | h
      · have h := h.1; simp at h
      · exact h.2.2.2.2.2
      · have h := h.1; simp at h
    have hsh := Lib.hid (img_short him)
    have hrl := row_lit [zone, whatB what] [1, 1] ((w5.alloc (.cells #[] 76)).alloc (.cells #[.int .i64 zone, .int .i64 what, .slice a bytes.length c] 79)) rfl (by simp) (img_fits him)
    obtain ⟨HD, hHD⟩ : ∃ HD, HD = rowB [zone, whatB what] [1, 1] := ⟨_, rfl⟩
    rw [← hHD] at hrl
    simp only [List.map_cons, List.map_nil, List.length_cons, List.length_nil, Nat.reduceAdd, World.size_alloc] at hrl
    have HLn := Lib.hid (And.intro (show HD.length = 2 by rw [hHD, tot_rowB [zone, whatB what] [1, 1] rfl]; rfl) (show BR.length = 11 by rw [HBR.out, rowR_len]))
    have HHD := Lib.hid hHD
    have HI := Lib.hid hI
    have HAB := Lib.hid hAB
    clear hA hAB hI him hHD
    by_cases hw : what = -1
    · subst hw
      rw [whatB_min] at hrl
      have hrl := Lib.hid hrl
      go_wp2_with fail
      ((with_reducible refine hrl.out.mono ?_); rintro e w6 ⟨r6, rfl, ho6, hB6⟩)
      obtain ⟨A6, C6, rfl⟩ := ho6.form
      obtain ⟨i1, i2, i3⟩ := (HI.out.below (by rw [World.size_alloc, World.size_alloc]; exact hB6)).all
      have HB6 := Lib.hid (HAB.out.trans (hB6.mono (by omega)))
      have HB06 := Lib.hid (HO5.out.2.trans (HB6.out.mono HO5.out.2.size))
      have HO6 := Lib.hid (ho6.mono_base (base' := w5.heap.size) (by omega))
      have hpt := Lib.hid (part_any (.slice a bytes.length c) bytes w6 noM noM (H.out.mono (Keep.below HB06.out)) (by have := hsh.out; omega))
      obtain ⟨PB, hPB⟩ : ∃ PB, PB = UInt8.ofNat bytes.length :: bytes := ⟨_, rfl⟩
      rw [← hPB] at hpt
      have hPl : PB.length = 1 + bytes.length := by rw [hPB, List.length_cons]; omega
      have HPB := Lib.hid (And.intro hPB hPl)
      clear hPB hPl hB6 ho6 hrl
      go_wp2_with fail
      ((with_reducible refine hpt.out.mono ?_); rintro e w7 ⟨r7, rfl, ho7, hB7⟩)
      obtain ⟨A7, C7, rfl⟩ := ho7.form
      have HB57 := Lib.hid (HB6.out.trans (hB7.mono HB6.out.size))
      have HB07 := Lib.hid (HO5.out.2.trans (HB57.out.mono HO5.out.2.size))
      have O5 := Lib.hid (HO5.out.1.below HB57.out)
      have O6 := HO6.out.below hB7
      have S6 := Lib.hid (show SlR w7 (fun b => noM b ∨ r5.ownBlock = some b) (.slice A6 HD.length C6) HD from (OwR.pl plU O6).sl' (fun b hb hm => hm.elim (fun h => h) (fun h => by have a1 := HO5.out.1.own_lt h; have a2 := O6.own_ge hb; omega)))
      have O7 := Lib.hid ho7
      have hl1 : BR.length + HD.length ≤ 1000000000 := by have := HLn.out; omega
      have hl2 : (BR ++ HD).length + PB.length ≤ 1000000000 := by have := HLn.out; have := HPB.out.2; have := hsh.out; rw [List.length_append]; omega
      clear O6 ho7 hB7 hpt i1 i2 i3
      have tok1 : True := trivial
      go_wp2_with (first | (at_builtin; have _t := tok1; go_must (refine wpList_append_R (α := UInt8) (M := noM) (base := w.heap.size) (l := BR) (m := HD) rfl (by rfl) tyB (by rfl) O5.out (by rfl) S6.out hl1 HB07.out.size ?_); clear tok1 _t; intro v8 w8 ho8 hg8 hat8; have HB8 := Lib.hid (HB07.out.grown hg8 HB07.out.size (fun b e => O5.out.own_ge e)); have O8 := Lib.hid ho8; have S7 := Lib.hid (app_src HO5.out.1 HB57.out O5.out O7.out (Nat.le_trans (Nat.le_refl _) HB6.out.size) hg8 hat8); clear hg8 hat8 ho8) | (at_builtin; go_must (refine wpList_append_R (α := UInt8) (M := noM) (base := w.heap.size) (l := BR ++ HD) (m := PB) rfl (by rfl) tyB (by rfl) O8.out (by rfl) S7.out hl2 HB8.out.size ?_); intro v9 w9 ho9 hg9 hat9))
      have HX := Lib.hid (And.intro ho9 (HB8.out.grown hg9 HB8.out.size (fun b e => O8.out.own_ge e)))
      clear ho9 hg9 hat9
      go_wp2
      go_ret2
      refine ⟨.inl ⟨hO.out, _, rfl, ?_⟩, HX.out.2⟩
      have hf := HX.out.1
      rw [HHD.out, HPB.out.1, HBR.out, List.append_assoc] at hf
      simpa [recB, imgB] using hf
    · rw [show whatB what = what from if_neg hw] at hrl
      have hrl := Lib.hid hrl
      have hw' : (what == -1) = false := by simpa using hw
      clear hw
      go_wp2_with fail
      ((with_reducible refine hrl.out.mono ?_); rintro e w6 ⟨r6, rfl, ho6, hB6⟩)
      obtain ⟨A6, C6, rfl⟩ := ho6.form
      obtain ⟨i1, i2, i3⟩ := (HI.out.below (by rw [World.size_alloc, World.size_alloc]; exact hB6)).all
      have HB6 := Lib.hid (HAB.out.trans (hB6.mono (by omega)))
      have HB06 := Lib.hid (HO5.out.2.trans (HB6.out.mono HO5.out.2.size))
      have HO6 := Lib.hid (ho6.mono_base (base' := w5.heap.size) (by omega))
      have hpt := Lib.hid (part_any (.slice a bytes.length c) bytes w6 noM noM (H.out.mono (Keep.below HB06.out)) (by have := hsh.out; omega))
      obtain ⟨PB, hPB⟩ : ∃ PB, PB = UInt8.ofNat bytes.length :: bytes := ⟨_, rfl⟩
      rw [← hPB] at hpt
      have hPl : PB.length = 1 + bytes.length := by rw [hPB, List.length_cons]; omega
      have HPB := Lib.hid (And.intro hPB hPl)
      clear hPB hPl hB6 ho6 hrl
      go_wp2_with fail
      ((with_reducible refine hpt.out.mono ?_); rintro e w7 ⟨r7, rfl, ho7, hB7⟩)
      obtain ⟨A7, C7, rfl⟩ := ho7.form
      have HB57 := Lib.hid (HB6.out.trans (hB7.mono HB6.out.size))
      have HB07 := Lib.hid (HO5.out.2.trans (HB57.out.mono HO5.out.2.size))
      have O5 := Lib.hid (HO5.out.1.below HB57.out)
      have O6 := HO6.out.below hB7
      have S6 := Lib.hid (show SlR w7 (fun b => noM b ∨ r5.ownBlock = some b) (.slice A6 HD.length C6) HD from (OwR.pl plU O6).sl' (fun b hb hm => hm.elim (fun h => h) (fun h => by have a1 := HO5.out.1.own_lt h; have a2 := O6.own_ge hb; omega)))
      have O7 := Lib.hid ho7
      have hl1 : BR.length + HD.length ≤ 1000000000 := by have := HLn.out; omega
      have hl2 : (BR ++ HD).length + PB.length ≤ 1000000000 := by have := HLn.out; have := HPB.out.2; have := hsh.out; rw [List.length_append]; omega
      clear O6 ho7 hB7 hpt i1 i2 i3
      have tok1 : True := trivial
      go_wp2_with (first | (at_builtin; have _t := tok1; go_must (refine wpList_append_R (α := UInt8) (M := noM) (base := w.heap.size) (l := BR) (m := HD) rfl (by rfl) tyB (by rfl) O5.out (by rfl) S6.out hl1 HB07.out.size ?_); clear tok1 _t; intro v8 w8 ho8 hg8 hat8; have HB8 := Lib.hid (HB07.out.grown hg8 HB07.out.size (fun b e => O5.out.own_ge e)); have O8 := Lib.hid ho8; have S7 := Lib.hid (app_src HO5.out.1 HB57.out O5.out O7.out (Nat.le_trans (Nat.le_refl _) HB6.out.size) hg8 hat8); clear hg8 hat8 ho8) | (at_builtin; go_must (refine wpList_append_R (α := UInt8) (M := noM) (base := w.heap.size) (l := BR ++ HD) (m := PB) rfl (by rfl) tyB (by rfl) O8.out (by rfl) S7.out hl2 HB8.out.size ?_); intro v9 w9 ho9 hg9 hat9))
      have HX := Lib.hid (And.intro ho9 (HB8.out.grown hg9 HB8.out.size (fun b e => O8.out.own_ge e)))
      clear ho9 hg9 hat9
      go_wp2
      go_ret2
      refine ⟨.inl ⟨hO.out, _, rfl, ?_⟩, HX.out.2⟩
      have hf := HX.out.1
      rw [HHD.out, HPB.out.1, HBR.out, List.append_assoc] at hf
      simpa [recB, imgB] using hf
  · go_simp
    refine (sizes_any _).mono ?_
    rintro e w3 ⟨rfl, rfl⟩
    go_simp
    have hx1 := ((Below.refl w2.heap.size w2).alloc (Nat.le_refl _) (.cells #[.int .i64 1, .int .i64 4, .int .i64 4, .int .i64 1, .int .i64 1] 3))
    have hx2 := hx1.alloc (by simp) (.cells #[.int .i64 1, .int .i64 seq, .int .i64 epoch, .int .i64 at_, .int .i64 of_] 3)
    refine hK _ _ ⟨fun _ _ => (HT2.out.below hx1.drew).cell, ?_⟩; clear hK K
    refine rp_only 10 (by kernel_rfl) rfl (fun K hK => ?_)
    go_simp
    refine hK _ _ ⟨fun _ _ => (HT2.out.below hx2.drew).cell, ?_⟩; clear hK K
    refine rp_only 12 (by kernel_rfl) rfl (fun K hK => ?_)
    go_simp
    have hrow := Lib.hid (row_any (.slice (some ⟨w2.heap.size + 1, 0, none⟩) 5 5) (.slice (some ⟨w2.heap.size, 0, none⟩) 5 5) (numsOf ⟨1, seq, epoch, at_, of_, ⟨zone, what, bytes⟩⟩) szR (((w2.alloc (.cells #[.int .i64 1, .int .i64 4, .int .i64 4, .int .i64 1, .int .i64 1] 3)).alloc (.cells #[.int .i64 1, .int .i64 seq, .int .i64 epoch, .int .i64 at_, .int .i64 of_] 3)).drew) noM noM noM
      (((by simpa [numsOf] using OwR.litI (w2.alloc (.cells #[.int .i64 1, .int .i64 4, .int .i64 4, .int .i64 1, .int .i64 1] 3)) noM (numsOf ⟨1, seq, epoch, at_, of_, ⟨zone, what, bytes⟩⟩) (by simp [numsOf])) : OwR ((w2.alloc (.cells #[.int .i64 1, .int .i64 4, .int .i64 4, .int .i64 1, .int .i64 1] 3)).alloc (.cells #[.int .i64 1, .int .i64 seq, .int .i64 epoch, .int .i64 at_, .int .i64 of_] 3)) noM (w2.heap.size + 1) 3 (.slice (some ⟨w2.heap.size + 1, 0, none⟩) 5 5) (numsOf ⟨1, seq, epoch, at_, of_, ⟨zone, what, bytes⟩⟩)).drew.sl fun _ _ h => h)
      ((((OwR.litI w2 noM szR (by simp)).alloc (.cells #[.int .i64 1, .int .i64 seq, .int .i64 epoch, .int .i64 at_, .int .i64 of_] 3)).drew).sl fun _ _ h => h) rfl (by simp [numsOf]) hfit.out)
    rw [← HBR.out] at hrow
    ((with_reducible refine hrow.out.mono ?_); rintro e w5 ⟨r5, rfl, ho5, hB5⟩)
    have HO5 := Lib.hid (And.intro (ho5.mono_base (base' := w.heap.size) (Nat.le_trans HB2.out.size hx2.drew.size)) (HB2.out.trans ((hx2.drew.trans (hB5.mono hx2.drew.size)).mono HB2.out.size)))
    have HT5 := Lib.hid ((HT2.out.below hx2.drew).below hB5)
    clear hrow ho5 hB5 hx1 hx2
    refine hK _ _ ⟨fun _ _ => HT5.out.cell, ?_⟩; clear hK K
    apply rp_pure 13 rfl (by kernel_rfl) (fun _ _ _ h => h) rfl
    · (intro W; go_simp; try rfl)
    · (go_simp; try rfl)
    apply rp_pure 14 rfl (by kernel_rfl) (fun _ _ _ h => h) rfl
    · (intro W; go_simp; try rfl)
    · (go_simp; try rfl)
    apply rp_pure 15 rfl (by kernel_rfl) (fun _ _ _ h => h) rfl
    · (intro W; go_simp; try rfl)
    · (go_simp; try rfl)
    apply rp_pure 16 rfl (by kernel_rfl) (fun _ _ _ h => h) rfl
    · (intro W; go_simp; try rfl)
    · (go_simp; try rfl)
    apply rp_pure 17 rfl (by kernel_rfl) (fun _ _ _ h => h) rfl
    · (intro W; go_simp; try rfl)
    · (go_simp; try rfl)
    refine rp_done (by kernel_rfl) ?_
    have hA := (Below.refl w5.heap.size w5).alloc (Nat.le_refl _) (.cells #[] 76)
    have hAB := hA.alloc (by simp) (.cells #[.int .i64 zone, .int .i64 what, .slice a bytes.length c] 79)
    have hI := Blk.new (w5.alloc (.cells #[] 76)) 79 #[.int .i64 zone, .int .i64 what, .slice a bytes.length c]
    simp only [World.size_alloc] at hI
    have him : imgOk ⟨z, d, sp, sl, an⟩ ⟨zone, what, bytes⟩ = true := by
      rcases (okR_parts hO.out).2 with h | h | h
      · have h := h.1; simp at h
      · exact h.2.2.2.2.2
      · have h := h.1; simp at h
    have hsh := Lib.hid (img_short him)
    have hrl := row_lit [zone, whatB what] [1, 1] ((w5.alloc (.cells #[] 76)).alloc (.cells #[.int .i64 zone, .int .i64 what, .slice a bytes.length c] 79)) rfl (by simp) (img_fits him)
    obtain ⟨HD, hHD⟩ : ∃ HD, HD = rowB [zone, whatB what] [1, 1] := ⟨_, rfl⟩
    rw [← hHD] at hrl
    simp only [List.map_cons, List.map_nil, List.length_cons, List.length_nil, Nat.reduceAdd, World.size_alloc] at hrl
    have HLn := Lib.hid (And.intro (show HD.length = 2 by rw [hHD, tot_rowB [zone, whatB what] [1, 1] rfl]; rfl) (show BR.length = 11 by rw [HBR.out, rowR_len]))
    have HHD := Lib.hid hHD
    have HI := Lib.hid hI
    have HAB := Lib.hid hAB
    clear hA hAB hI him hHD
    by_cases hw : what = -1
    · subst hw
      rw [whatB_min] at hrl
      have hrl := Lib.hid hrl
      go_wp2_with fail
      ((with_reducible refine hrl.out.mono ?_); rintro e w6 ⟨r6, rfl, ho6, hB6⟩)
      obtain ⟨A6, C6, rfl⟩ := ho6.form
      obtain ⟨i1, i2, i3⟩ := (HI.out.below (by rw [World.size_alloc, World.size_alloc]; exact hB6)).all
      have HB6 := Lib.hid (HAB.out.trans (hB6.mono (by omega)))
      have HB06 := Lib.hid (HO5.out.2.trans (HB6.out.mono HO5.out.2.size))
      have HO6 := Lib.hid (ho6.mono_base (base' := w5.heap.size) (by omega))
      have hpt := Lib.hid (part_any (.slice a bytes.length c) bytes w6 noM noM (H.out.mono (Keep.below HB06.out)) (by have := hsh.out; omega))
      obtain ⟨PB, hPB⟩ : ∃ PB, PB = UInt8.ofNat bytes.length :: bytes := ⟨_, rfl⟩
      rw [← hPB] at hpt
      have hPl : PB.length = 1 + bytes.length := by rw [hPB, List.length_cons]; omega
      have HPB := Lib.hid (And.intro hPB hPl)
      clear hPB hPl hB6 ho6 hrl
      go_wp2_with fail
      ((with_reducible refine hpt.out.mono ?_); rintro e w7 ⟨r7, rfl, ho7, hB7⟩)
      obtain ⟨A7, C7, rfl⟩ := ho7.form
      have HB57 := Lib.hid (HB6.out.trans (hB7.mono HB6.out.size))
      have HB07 := Lib.hid (HO5.out.2.trans (HB57.out.mono HO5.out.2.size))
      have O5 := Lib.hid (HO5.out.1.below HB57.out)
      have O6 := HO6.out.below hB7
      have S6 := Lib.hid (show SlR w7 (fun b => noM b ∨ r5.ownBlock = some b) (.slice A6 HD.length C6) HD from (OwR.pl plU O6).sl' (fun b hb hm => hm.elim (fun h => h) (fun h => by have a1 := HO5.out.1.own_lt h; have a2 := O6.own_ge hb; omega)))
      have O7 := Lib.hid ho7
      have hl1 : BR.length + HD.length ≤ 1000000000 := by have := HLn.out; omega
      have hl2 : (BR ++ HD).length + PB.length ≤ 1000000000 := by have := HLn.out; have := HPB.out.2; have := hsh.out; rw [List.length_append]; omega
      clear O6 ho7 hB7 hpt i1 i2 i3
      have tok1 : True := trivial
      go_wp2_with (first | (at_builtin; have _t := tok1; go_must (refine wpList_append_R (α := UInt8) (M := noM) (base := w.heap.size) (l := BR) (m := HD) rfl (by rfl) tyB (by rfl) O5.out (by rfl) S6.out hl1 HB07.out.size ?_); clear tok1 _t; intro v8 w8 ho8 hg8 hat8; have HB8 := Lib.hid (HB07.out.grown hg8 HB07.out.size (fun b e => O5.out.own_ge e)); have O8 := Lib.hid ho8; have S7 := Lib.hid (app_src HO5.out.1 HB57.out O5.out O7.out (Nat.le_trans (Nat.le_refl _) HB6.out.size) hg8 hat8); clear hg8 hat8 ho8) | (at_builtin; go_must (refine wpList_append_R (α := UInt8) (M := noM) (base := w.heap.size) (l := BR ++ HD) (m := PB) rfl (by rfl) tyB (by rfl) O8.out (by rfl) S7.out hl2 HB8.out.size ?_); intro v9 w9 ho9 hg9 hat9))
      have HX := Lib.hid (And.intro ho9 (HB8.out.grown hg9 HB8.out.size (fun b e => O8.out.own_ge e)))
      clear ho9 hg9 hat9
      go_wp2
      go_ret2
      refine ⟨.inl ⟨hO.out, _, rfl, ?_⟩, HX.out.2⟩
      have hf := HX.out.1
      rw [HHD.out, HPB.out.1, HBR.out, List.append_assoc] at hf
      simpa [recB, imgB] using hf
    · rw [show whatB what = what from if_neg hw] at hrl
      have hrl := Lib.hid hrl
      have hw' : (what == -1) = false := by simpa using hw
      clear hw
      go_wp2_with fail
      ((with_reducible refine hrl.out.mono ?_); rintro e w6 ⟨r6, rfl, ho6, hB6⟩)
      obtain ⟨A6, C6, rfl⟩ := ho6.form
      obtain ⟨i1, i2, i3⟩ := (HI.out.below (by rw [World.size_alloc, World.size_alloc]; exact hB6)).all
      have HB6 := Lib.hid (HAB.out.trans (hB6.mono (by omega)))
      have HB06 := Lib.hid (HO5.out.2.trans (HB6.out.mono HO5.out.2.size))
      have HO6 := Lib.hid (ho6.mono_base (base' := w5.heap.size) (by omega))
      have hpt := Lib.hid (part_any (.slice a bytes.length c) bytes w6 noM noM (H.out.mono (Keep.below HB06.out)) (by have := hsh.out; omega))
      obtain ⟨PB, hPB⟩ : ∃ PB, PB = UInt8.ofNat bytes.length :: bytes := ⟨_, rfl⟩
      rw [← hPB] at hpt
      have hPl : PB.length = 1 + bytes.length := by rw [hPB, List.length_cons]; omega
      have HPB := Lib.hid (And.intro hPB hPl)
      clear hPB hPl hB6 ho6 hrl
      go_wp2_with fail
      ((with_reducible refine hpt.out.mono ?_); rintro e w7 ⟨r7, rfl, ho7, hB7⟩)
      obtain ⟨A7, C7, rfl⟩ := ho7.form
      have HB57 := Lib.hid (HB6.out.trans (hB7.mono HB6.out.size))
      have HB07 := Lib.hid (HO5.out.2.trans (HB57.out.mono HO5.out.2.size))
      have O5 := Lib.hid (HO5.out.1.below HB57.out)
      have O6 := HO6.out.below hB7
      have S6 := Lib.hid (show SlR w7 (fun b => noM b ∨ r5.ownBlock = some b) (.slice A6 HD.length C6) HD from (OwR.pl plU O6).sl' (fun b hb hm => hm.elim (fun h => h) (fun h => by have a1 := HO5.out.1.own_lt h; have a2 := O6.own_ge hb; omega)))
      have O7 := Lib.hid ho7
      have hl1 : BR.length + HD.length ≤ 1000000000 := by have := HLn.out; omega
      have hl2 : (BR ++ HD).length + PB.length ≤ 1000000000 := by have := HLn.out; have := HPB.out.2; have := hsh.out; rw [List.length_append]; omega
      clear O6 ho7 hB7 hpt i1 i2 i3
      have tok1 : True := trivial
      go_wp2_with (first | (at_builtin; have _t := tok1; go_must (refine wpList_append_R (α := UInt8) (M := noM) (base := w.heap.size) (l := BR) (m := HD) rfl (by rfl) tyB (by rfl) O5.out (by rfl) S6.out hl1 HB07.out.size ?_); clear tok1 _t; intro v8 w8 ho8 hg8 hat8; have HB8 := Lib.hid (HB07.out.grown hg8 HB07.out.size (fun b e => O5.out.own_ge e)); have O8 := Lib.hid ho8; have S7 := Lib.hid (app_src HO5.out.1 HB57.out O5.out O7.out (Nat.le_trans (Nat.le_refl _) HB6.out.size) hg8 hat8); clear hg8 hat8 ho8) | (at_builtin; go_must (refine wpList_append_R (α := UInt8) (M := noM) (base := w.heap.size) (l := BR ++ HD) (m := PB) rfl (by rfl) tyB (by rfl) O8.out (by rfl) S7.out hl2 HB8.out.size ?_); intro v9 w9 ho9 hg9 hat9))
      have HX := Lib.hid (And.intro ho9 (HB8.out.grown hg9 HB8.out.size (fun b e => O8.out.own_ge e)))
      clear ho9 hg9 hat9
      go_wp2
      go_ret2
      refine ⟨.inl ⟨hO.out, _, rfl, ?_⟩, HX.out.2⟩
      have hf := HX.out.1
      rw [HHD.out, HPB.out.1, HBR.out, List.append_assoc] at hf
      simpa [recB, imgB] using hf
end Go.Proofs.Ytpknhpfbinplgaa
end

/-
Package rec: an image read; a record's bytes, whatever record.
-/
section
namespace Go.Proofs.Ytpknhpfbinplgaa
open Go.RowKit
attribute [local go_sem ↓] Go.wp_at_zero Go.wp_at_succ

theorem rbytes_any (g : Geo) (r : Rc) (v : Value) (w : World) (Mi : Ms) (h : SlR w Mi v r.img.bytes) (hl : r.img.bytes.length ≤ 100000) :
    Calls Try.prog 9 #[gv g, rv r v] w fun e w' => RbytesP w' w.heap.size g r e ∧ Below w.heap.size w w' := by
  cases hok : okR g r with
  | false => exact rbytes_no g r v w Mi h hl hok
  | true =>
    rcases (okR_parts hok).2 with hk | hk | hk
    · exact rbytes_0 g r v w Mi h hl hok hk.1
    · exact rbytes_1 g r v w Mi h hl hok hk.1
    · exact rbytes_2 g r v w Mi h hl hok hk.1

def whatN (n : Int) : Int := if n = 254 then -1 else n
def shownOk (b : List UInt8) : Bool := decide (2 ≤ b.length) && partOk (b.drop 2)
/-- The image that bytes are. -/
def imgOf (b : List UInt8) : Img := ⟨(nums [1, 1] b).getD 0 0, whatN ((nums [1, 1] b).getD 1 0), ((b.drop 2).drop 1).take (partN (b.drop 2))⟩
def ShownP (w' : World) (base : Nat) (b : List UInt8) (e : Ending) : Prop :=
  (shownOk b = true ∧ ∃ v, e = .returned (.tuple #[.agg #[.int .i64 (imgOf b).zone, .int .i64 (imgOf b).what, v], .int .i64 0]) ∧ OwR w' noM base 5 v (imgOf b).bytes) ∨
  (shownOk b = false ∧ ∃ x y, e = .returned (.tuple #[.agg #[.int .i64 x, .int .i64 y, .slice none 0 0], .int .i64 4]))
theorem st3_cells {w : World} {b : Nat} {t : TypeId} {a0 a1 a2 : Value} (h : Blk w b t #[a0, a1, a2]) (x y z : Value) (i : Nat) : (((w.setCell ⟨b, 0, none⟩ x).setCell ⟨b, 1, none⟩ y).setCell ⟨b, 2, none⟩ z).cell? ⟨b, i, none⟩ = #[x, y, z][i]? :=
  (((h.set_ 0 x).set_ 1 y).set_ 2 z).cell i
theorem OwR.int2 {w : World} {M : Ms} {base : Nat} {e : TypeId} {v : Value} {x y : Int} (h : OwR w M base e v [x, y]) : ∃ B c, v = .slice (some ⟨B, 0, none⟩) 2 c ∧ base ≤ B ∧ B < w.heap.size ∧ (∀ i, w.frozen? ⟨B, i, none⟩ = false) ∧ w.cell? ⟨B, 0, none⟩ = some (.int .i64 x) ∧ w.cell? ⟨B, 1, none⟩ = some (.int .i64 y) := by
  obtain ⟨B, c, cs, rfl, hb, -, hf, he, hc⟩ := h.at_ (k := 0) (by simp)
  obtain ⟨B1, c1, cs1, e1, -, -, -, he1, hc1⟩ := h.at_ (k := 1) (by simp)
  cases e1
  have he : cs = [.int .i64 x] := he
  have he1 : cs1 = [.int .i64 y] := he1
  subst he he1
  exact ⟨B, c, rfl, hb, World.block_lt_of_cell? _ _ (hc 0 _ rfl), hf, hc 0 _ rfl, hc1 0 _ rfl⟩

set_option maxRecDepth 100000 in
set_option maxHeartbeats 16000000 in
theorem shown_any (v : Value) (b : List UInt8) (w : World) (Mi : Ms) (h : SlR w Mi v b) (hl : b.length ≤ 100000) :
    Calls Try.prog 39 #[v] w fun e w' => ShownP w' w.heap.size b e ∧ Below w.heap.size w w' := by
  obtain ⟨a, c, rfl⟩ := h.form
  have hb1 := (Below.refl w.heap.size w).alloc (Nat.le_refl _) (.cells #[.int .i64 0, .int .i64 0, .slice none 0 0] 26)
  have hb2 := hb1.alloc (by simp) (.cells #[.int .i64 1, .int .i64 1] 3)
  have hR := (Blk.new w 26 #[.int .i64 0, .int .i64 0, .slice none 0 0]).alloc (.cells #[.int .i64 1, .int .i64 1] 3)
  have hs2 := (OwR.litI (w.alloc (.cells #[.int .i64 0, .int .i64 0, .slice none 0 0] 26)) noM [1, 1] (by simp)).sl (M := noM) (fun _ _ h => h)
  have hun := Lib.hid (unrow_any _ _ b [1, 1] _ noM noM (h.bare.mono (Keep.below hb2)) hs2 (by decide) (by omega) (by simp))
  simp only [List.map_cons, List.map_nil, List.length_cons, List.length_nil, Nat.reduceAdd, World.size_alloc] at hun
  have HB := Lib.hid hb2
  have HR := Lib.hid hR
  clear hb1 hb2 hR hs2 h
  go_enter Try.func39, Try.ntmps39
  go_wp2_with fail
  ((with_reducible refine hun.out.mono ?_); rintro e w1 ⟨hU, hB1⟩)
  have hB1 : Below ((w.alloc (.cells #[.int .i64 0, .int .i64 0, .slice none 0 0] 26)).alloc (.cells #[.int .i64 1, .int .i64 1] 3)).heap.size ((w.alloc (.cells #[.int .i64 0, .int .i64 0, .slice none 0 0] 26)).alloc (.cells #[.int .i64 1, .int .i64 1] 3)) w1 := by simpa using hB1
  have HB1 := Lib.hid (HB.out.trans (hB1.mono HB.out.size))
  have HR1 := Lib.hid (HR.out.below hB1)
  clear hB1 hun
  rcases hU with ⟨hfit, v1, v2, rfl, ho1, ho2⟩ | ⟨hfew, rfl⟩
  · have hT : tot [1, 1] = 2 := rfl
    rw [hT] at hfit ho2
    obtain ⟨a2, c2, rfl⟩ := ho2.form
    have hpt := Lib.hid (unpart_any _ (b.drop 2) w1 noM (ho2.sl (fun _ _ h => h)) (by rw [List.length_drop]; omega))
    obtain ⟨x, y, hxy⟩ : ∃ x y, nums [1, 1] b = [x, y] := ⟨_, _, rfl⟩
    rw [hxy] at ho1
    have HXY := Lib.hid hxy
    have HF := Lib.hid hfit
    obtain ⟨B, cB, rfl, hBB, hBlt, f1, y0, y1⟩ := ho1.int2
    have HBB := Lib.hid (show w.heap.size < B ∧ B < w1.heap.size ∧ w.heap.size < w1.heap.size from ⟨by omega, hBlt, by omega⟩)
    obtain ⟨R, hR⟩ : ∃ R, R = b.drop 2 := ⟨_, rfl⟩
    rw [← hR] at hpt
    have HRb := Lib.hid hR
    rw [← hR]
    clear hxy hfit ho1 ho2 hT hBB hBlt hR
    go_wp2_with fail
    ((with_reducible refine hpt.out.mono ?_); rintro e w2 ⟨hP, hB2⟩)
    have HB2 := Lib.hid (HB1.out.trans (hB2.mono HB1.out.size))
    have HR2 := Lib.hid (HR1.out.below hB2)
    have Z0 := Lib.hid (below_cell hB2 y0)
    have Z1 := Lib.hid (below_cell hB2 y1)
    have F2 := Lib.hid (fun i => (bcell hB2).2 B i HBB.out.2.1 |>.trans (f1 i))
    have HLT := Lib.hid (show B < w2.heap.size from Nat.lt_of_lt_of_le HBB.out.2.1 hB2.size)
    have hBB1 := HBB.out.1
    have hBB2 := HBB.out.2.1
    clear hB2 hpt y0 y1 f1
    rcases hP with ⟨hpo, v3, v4, rfl, hv3, -⟩ | ⟨hpo, rfl⟩
    · have hIb : (R.drop 1).take (partN R) = (imgOf b).bytes := by rw [HRb.out]; rfl
      rw [hIb] at hv3
      have HPO := Lib.hid hpo
      clear hIb hpo
      obtain ⟨a3, c3, rfl⟩ := hv3.form
      by_cases hy : y = 254
      · subst hy
        have hy' : ((254 : Int) == 254) = true := rfl
        obtain ⟨q1, q2⟩ : w2.cell? ⟨B, 0, none⟩ = some (.int .i64 x) ∧ w2.cell? ⟨B, 1, none⟩ = some (.int .i64 254) := ⟨Z0.out, Z1.out⟩
        have f3 := F2.out
        have hBlt2 := HLT.out
        have hS := Lib.hid (show (w2.setCell ⟨B, 1, none⟩ (.int .i64 (-1))).drew.cell? ⟨B, 0, none⟩ = some (.int .i64 x) ∧ (w2.setCell ⟨B, 1, none⟩ (.int .i64 (-1))).drew.cell? ⟨B, 1, none⟩ = some (.int .i64 (-1)) from ⟨by exact (World.cell?_setCell_other w2 ⟨B, 1, none⟩ ⟨B, 0, none⟩ (.int .i64 (-1)) (by simp)).trans q1, World.cell?_setCell_same w2 _ (.int .i64 (-1)) q2⟩)
        have HR4 := Lib.hid (HR2.out.far (p := ⟨B, 1, none⟩) (by simp; omega) (.int .i64 (-1)))
        have HB4 := Lib.hid (HB2.out.setCell (p := ⟨B, 1, none⟩) (by simp; omega) (.int .i64 (-1)))
        have HV4 := Lib.hid (And.intro ((hv3.setP plU (p := ⟨B, 1, none⟩) (fun e => by have := hv3.own_ge e; simp at this; omega) (.int .i64 (-1)))) (show (Value.slice a3 (imgOf b).bytes.length c3).ownBlock ≠ some w.heap.size from fun e => by have := hv3.own_ge e; have := HBB.out; omega))
        clear hv3
        go_wp2_with fail
        clear q1 q2
        refine rp_enter [2, 5] (fun W => W.cell? ⟨B, 0, none⟩ = some (.int .i64 x) ∧ W.cell? ⟨B, 1, none⟩ = some (.int .i64 (-1))) (by kernel_rfl) ?_
        obtain ⟨r1, r2, r3⟩ := HR2.out.all
        apply rp_pure 0 rfl (by kernel_rfl) (fun _ _ _ h => h) rfl
        · (intro W; go_simp; try rfl)
        · (go_simp; try rfl)
        apply rp_pure 1 rfl (by kernel_rfl) (fun _ _ _ h => h) rfl
        · (intro W; go_simp; try rfl)
        · (go_simp; try rfl)
        apply rp_take 2 rfl (by kernel_rfl) (fun _ _ _ h => h) (hS.out) rfl
        · (rintro W ⟨s0, s1⟩; go_simp; try rfl)
        · (go_simp; try rfl)
        apply rp_pure 3 rfl (by kernel_rfl) (fun _ _ _ h => h) rfl
        · (intro W; go_simp; try rfl)
        · (go_simp; try rfl)
        apply rp_pure 4 rfl (by kernel_rfl) (fun _ _ _ h => h) rfl
        · (intro W; go_simp; try rfl)
        · (go_simp; try rfl)
        apply rp_take 5 rfl (by kernel_rfl) (fun _ _ _ h => h) (hS.out) rfl
        · (rintro W ⟨s0, s1⟩; go_simp; try rfl)
        · (go_simp; try rfl)
        apply rp_pure 6 rfl (by kernel_rfl) (fun _ _ _ h => h) rfl
        · (intro W; go_simp; try rfl)
        · (go_simp; try rfl)
        apply rp_pure 7 rfl (by kernel_rfl) (fun _ _ _ h => h) rfl
        · (intro W; go_simp; try rfl)
        · (go_simp; try rfl)
        apply rp_pure 8 rfl (by kernel_rfl) (fun _ _ _ h => h) rfl
        · (intro W; go_simp; try rfl)
        · (go_simp; try rfl)
        refine rp_free 9 (by kernel_rfl) (by kernel_rfl) rfl (fun K hK => ?_)
        go_simp
        refine hK _ _ ?_; clear hK K
        apply rp_pure 10 rfl (by kernel_rfl) (fun _ _ _ h => h) rfl
        · (intro W; go_simp; try rfl)
        · (go_simp; try rfl)
        refine rp_done (by kernel_rfl) ?_
        clear r1 r2 r3
        have hx := st3_cells HR4.out (.int .i64 x) (.int .i64 (-1)) (.slice a3 (imgOf b).bytes.length c3)
        have HBf := Lib.hid ((((HB4.out.setCell (p := ⟨w.heap.size, 0, none⟩) (Nat.le_refl _) (.int .i64 x)).setCell (p := ⟨w.heap.size, 1, none⟩) (Nat.le_refl _) (.int .i64 (-1))).setCell (p := ⟨w.heap.size, 2, none⟩) (Nat.le_refl _) (.slice a3 (imgOf b).bytes.length c3)).drew)
        have HVf := Lib.hid ((((HV4.out.1.setP plU (p := ⟨w.heap.size, 0, none⟩) HV4.out.2 (.int .i64 x)).setP plU (p := ⟨w.heap.size, 1, none⟩) HV4.out.2 (.int .i64 (-1))).setP plU (p := ⟨w.heap.size, 2, none⟩) HV4.out.2 (.slice a3 (imgOf b).bytes.length c3)).drew)
        have hi1 := Lib.hid (show (imgOf b).zone = x ∧ (imgOf b).what = (-1) by simp [imgOf, HXY.out, whatN])
        have hSO := Lib.hid (show shownOk b = true by have h1 := HF.out; have h2 := HPO.out; rw [HRb.out] at h2; simp [shownOk, h1, h2])
        go_wp2
        refine bodyPost_ret (v := .tuple #[.agg #[.int .i64 x, .int .i64 (-1), .slice a3 (imgOf b).bytes.length c3], .int .i64 0]) (by simp [results, Try.results39, go_sem, hx]) rfl ?_
        refine ⟨.inl ⟨hSO.out, _, ?_, HVf.out.mono_base (Nat.le_of_lt HBB.out.2.2)⟩, HBf.out⟩
        rw [hi1.out.1, hi1.out.2]
      · skip
        have hne := Lib.hid hy
        have hy' : (y == 254) = false := by simpa using hy
        obtain ⟨q1, q2⟩ : w2.cell? ⟨B, 0, none⟩ = some (.int .i64 x) ∧ w2.cell? ⟨B, 1, none⟩ = some (.int .i64 y) := ⟨Z0.out, Z1.out⟩
        have hS := Lib.hid (show w2.drew.cell? ⟨B, 0, none⟩ = some (.int .i64 x) ∧ w2.drew.cell? ⟨B, 1, none⟩ = some (.int .i64 y) from ⟨q1, q2⟩)
        have HR4 := Lib.hid HR2.out
        have HB4 := Lib.hid HB2.out
        clear hy
        have HV4 := Lib.hid (And.intro hv3 (show (Value.slice a3 (imgOf b).bytes.length c3).ownBlock ≠ some w.heap.size from fun e => by have := hv3.own_ge e; have := HBB.out; omega))
        clear hv3
        go_wp2_with fail
        clear q1 q2
        refine rp_enter [2, 5] (fun W => W.cell? ⟨B, 0, none⟩ = some (.int .i64 x) ∧ W.cell? ⟨B, 1, none⟩ = some (.int .i64 y)) (by kernel_rfl) ?_
        obtain ⟨r1, r2, r3⟩ := HR2.out.all
        apply rp_pure 0 rfl (by kernel_rfl) (fun _ _ _ h => h) rfl
        · (intro W; go_simp; try rfl)
        · (go_simp; try rfl)
        apply rp_pure 1 rfl (by kernel_rfl) (fun _ _ _ h => h) rfl
        · (intro W; go_simp; try rfl)
        · (go_simp; try rfl)
        apply rp_take 2 rfl (by kernel_rfl) (fun _ _ _ h => h) (hS.out) rfl
        · (rintro W ⟨s0, s1⟩; go_simp; try rfl)
        · (go_simp; try rfl)
        apply rp_pure 3 rfl (by kernel_rfl) (fun _ _ _ h => h) rfl
        · (intro W; go_simp; try rfl)
        · (go_simp; try rfl)
        apply rp_pure 4 rfl (by kernel_rfl) (fun _ _ _ h => h) rfl
        · (intro W; go_simp; try rfl)
        · (go_simp; try rfl)
        apply rp_take 5 rfl (by kernel_rfl) (fun _ _ _ h => h) (hS.out) rfl
        · (rintro W ⟨s0, s1⟩; go_simp; try rfl)
        · (go_simp; try rfl)
        apply rp_pure 6 rfl (by kernel_rfl) (fun _ _ _ h => h) rfl
        · (intro W; go_simp; try rfl)
        · (go_simp; try rfl)
        apply rp_pure 7 rfl (by kernel_rfl) (fun _ _ _ h => h) rfl
        · (intro W; go_simp; try rfl)
        · (go_simp; try rfl)
        apply rp_pure 8 rfl (by kernel_rfl) (fun _ _ _ h => h) rfl
        · (intro W; go_simp; try rfl)
        · (go_simp; try rfl)
        refine rp_free 9 (by kernel_rfl) (by kernel_rfl) rfl (fun K hK => ?_)
        go_simp
        refine hK _ _ ?_; clear hK K
        apply rp_pure 10 rfl (by kernel_rfl) (fun _ _ _ h => h) rfl
        · (intro W; go_simp; try rfl)
        · (go_simp; try rfl)
        refine rp_done (by kernel_rfl) ?_
        clear r1 r2 r3
        have hx := st3_cells HR4.out (.int .i64 x) (.int .i64 y) (.slice a3 (imgOf b).bytes.length c3)
        have HBf := Lib.hid ((((HB4.out.setCell (p := ⟨w.heap.size, 0, none⟩) (Nat.le_refl _) (.int .i64 x)).setCell (p := ⟨w.heap.size, 1, none⟩) (Nat.le_refl _) (.int .i64 y)).setCell (p := ⟨w.heap.size, 2, none⟩) (Nat.le_refl _) (.slice a3 (imgOf b).bytes.length c3)).drew)
        have HVf := Lib.hid ((((HV4.out.1.setP plU (p := ⟨w.heap.size, 0, none⟩) HV4.out.2 (.int .i64 x)).setP plU (p := ⟨w.heap.size, 1, none⟩) HV4.out.2 (.int .i64 y)).setP plU (p := ⟨w.heap.size, 2, none⟩) HV4.out.2 (.slice a3 (imgOf b).bytes.length c3)).drew)
        have hi1 := Lib.hid (show (imgOf b).zone = x ∧ (imgOf b).what = y by simp [imgOf, HXY.out, whatN, hne.out])
        have hSO := Lib.hid (show shownOk b = true by have h1 := HF.out; have h2 := HPO.out; rw [HRb.out] at h2; simp [shownOk, h1, h2])
        go_wp2
        refine bodyPost_ret (v := .tuple #[.agg #[.int .i64 x, .int .i64 y, .slice a3 (imgOf b).bytes.length c3], .int .i64 0]) (by simp [results, Try.results39, go_sem, hx]) rfl ?_
        refine ⟨.inl ⟨hSO.out, _, ?_, HVf.out.mono_base (Nat.le_of_lt HBB.out.2.2)⟩, HBf.out⟩
        rw [hi1.out.1, hi1.out.2]
    · have HPO := Lib.hid hpo
      clear hpo
      by_cases hy : y = 254
      · subst hy
        have hy' : ((254 : Int) == 254) = true := rfl
        obtain ⟨q1, q2⟩ : w2.cell? ⟨B, 0, none⟩ = some (.int .i64 x) ∧ w2.cell? ⟨B, 1, none⟩ = some (.int .i64 254) := ⟨Z0.out, Z1.out⟩
        have f3 := F2.out
        have hBlt2 := HLT.out
        have hS := Lib.hid (show (w2.setCell ⟨B, 1, none⟩ (.int .i64 (-1))).drew.cell? ⟨B, 0, none⟩ = some (.int .i64 x) ∧ (w2.setCell ⟨B, 1, none⟩ (.int .i64 (-1))).drew.cell? ⟨B, 1, none⟩ = some (.int .i64 (-1)) from ⟨by exact (World.cell?_setCell_other w2 ⟨B, 1, none⟩ ⟨B, 0, none⟩ (.int .i64 (-1)) (by simp)).trans q1, World.cell?_setCell_same w2 _ (.int .i64 (-1)) q2⟩)
        have HR4 := Lib.hid (HR2.out.far (p := ⟨B, 1, none⟩) (by simp; omega) (.int .i64 (-1)))
        have HB4 := Lib.hid (HB2.out.setCell (p := ⟨B, 1, none⟩) (by simp; omega) (.int .i64 (-1)))
        go_wp2_with fail
        clear q1 q2
        refine rp_enter [2, 5] (fun W => W.cell? ⟨B, 0, none⟩ = some (.int .i64 x) ∧ W.cell? ⟨B, 1, none⟩ = some (.int .i64 (-1))) (by kernel_rfl) ?_
        obtain ⟨r1, r2, r3⟩ := HR2.out.all
        apply rp_pure 0 rfl (by kernel_rfl) (fun _ _ _ h => h) rfl
        · (intro W; go_simp; try rfl)
        · (go_simp; try rfl)
        apply rp_pure 1 rfl (by kernel_rfl) (fun _ _ _ h => h) rfl
        · (intro W; go_simp; try rfl)
        · (go_simp; try rfl)
        apply rp_take 2 rfl (by kernel_rfl) (fun _ _ _ h => h) (hS.out) rfl
        · (rintro W ⟨s0, s1⟩; go_simp; try rfl)
        · (go_simp; try rfl)
        apply rp_pure 3 rfl (by kernel_rfl) (fun _ _ _ h => h) rfl
        · (intro W; go_simp; try rfl)
        · (go_simp; try rfl)
        apply rp_pure 4 rfl (by kernel_rfl) (fun _ _ _ h => h) rfl
        · (intro W; go_simp; try rfl)
        · (go_simp; try rfl)
        apply rp_take 5 rfl (by kernel_rfl) (fun _ _ _ h => h) (hS.out) rfl
        · (rintro W ⟨s0, s1⟩; go_simp; try rfl)
        · (go_simp; try rfl)
        apply rp_pure 6 rfl (by kernel_rfl) (fun _ _ _ h => h) rfl
        · (intro W; go_simp; try rfl)
        · (go_simp; try rfl)
        apply rp_pure 7 rfl (by kernel_rfl) (fun _ _ _ h => h) rfl
        · (intro W; go_simp; try rfl)
        · (go_simp; try rfl)
        apply rp_pure 8 rfl (by kernel_rfl) (fun _ _ _ h => h) rfl
        · (intro W; go_simp; try rfl)
        · (go_simp; try rfl)
        refine rp_free 9 (by kernel_rfl) (by kernel_rfl) rfl (fun K hK => ?_)
        go_simp
        refine hK _ _ ?_; clear hK K
        apply rp_pure 10 rfl (by kernel_rfl) (fun _ _ _ h => h) rfl
        · (intro W; go_simp; try rfl)
        · (go_simp; try rfl)
        refine rp_done (by kernel_rfl) ?_
        clear r1 r2 r3
        have hx := st3_cells HR4.out (.int .i64 x) (.int .i64 (-1)) (.slice none 0 0)
        have HBf := Lib.hid ((((HB4.out.setCell (p := ⟨w.heap.size, 0, none⟩) (Nat.le_refl _) (.int .i64 x)).setCell (p := ⟨w.heap.size, 1, none⟩) (Nat.le_refl _) (.int .i64 (-1))).setCell (p := ⟨w.heap.size, 2, none⟩) (Nat.le_refl _) (.slice none 0 0)).drew)
        have hSO := Lib.hid (show shownOk b = false by have h2 := HPO.out; rw [HRb.out] at h2; simp [shownOk, h2])
        go_wp2
        refine bodyPost_ret (v := .tuple #[.agg #[.int .i64 x, .int .i64 (-1), .slice none 0 0], .int .i64 4]) (by simp [results, Try.results39, go_sem, hx]) rfl ?_
        exact ⟨.inr ⟨hSO.out, _, _, rfl⟩, HBf.out⟩
      · skip
        have hne := Lib.hid hy
        have hy' : (y == 254) = false := by simpa using hy
        obtain ⟨q1, q2⟩ : w2.cell? ⟨B, 0, none⟩ = some (.int .i64 x) ∧ w2.cell? ⟨B, 1, none⟩ = some (.int .i64 y) := ⟨Z0.out, Z1.out⟩
        have hS := Lib.hid (show w2.drew.cell? ⟨B, 0, none⟩ = some (.int .i64 x) ∧ w2.drew.cell? ⟨B, 1, none⟩ = some (.int .i64 y) from ⟨q1, q2⟩)
        have HR4 := Lib.hid HR2.out
        have HB4 := Lib.hid HB2.out
        clear hy
        go_wp2_with fail
        clear q1 q2
        refine rp_enter [2, 5] (fun W => W.cell? ⟨B, 0, none⟩ = some (.int .i64 x) ∧ W.cell? ⟨B, 1, none⟩ = some (.int .i64 y)) (by kernel_rfl) ?_
        obtain ⟨r1, r2, r3⟩ := HR2.out.all
        apply rp_pure 0 rfl (by kernel_rfl) (fun _ _ _ h => h) rfl
        · (intro W; go_simp; try rfl)
        · (go_simp; try rfl)
        apply rp_pure 1 rfl (by kernel_rfl) (fun _ _ _ h => h) rfl
        · (intro W; go_simp; try rfl)
        · (go_simp; try rfl)
        apply rp_take 2 rfl (by kernel_rfl) (fun _ _ _ h => h) (hS.out) rfl
        · (rintro W ⟨s0, s1⟩; go_simp; try rfl)
        · (go_simp; try rfl)
        apply rp_pure 3 rfl (by kernel_rfl) (fun _ _ _ h => h) rfl
        · (intro W; go_simp; try rfl)
        · (go_simp; try rfl)
        apply rp_pure 4 rfl (by kernel_rfl) (fun _ _ _ h => h) rfl
        · (intro W; go_simp; try rfl)
        · (go_simp; try rfl)
        apply rp_take 5 rfl (by kernel_rfl) (fun _ _ _ h => h) (hS.out) rfl
        · (rintro W ⟨s0, s1⟩; go_simp; try rfl)
        · (go_simp; try rfl)
        apply rp_pure 6 rfl (by kernel_rfl) (fun _ _ _ h => h) rfl
        · (intro W; go_simp; try rfl)
        · (go_simp; try rfl)
        apply rp_pure 7 rfl (by kernel_rfl) (fun _ _ _ h => h) rfl
        · (intro W; go_simp; try rfl)
        · (go_simp; try rfl)
        apply rp_pure 8 rfl (by kernel_rfl) (fun _ _ _ h => h) rfl
        · (intro W; go_simp; try rfl)
        · (go_simp; try rfl)
        refine rp_free 9 (by kernel_rfl) (by kernel_rfl) rfl (fun K hK => ?_)
        go_simp
        refine hK _ _ ?_; clear hK K
        apply rp_pure 10 rfl (by kernel_rfl) (fun _ _ _ h => h) rfl
        · (intro W; go_simp; try rfl)
        · (go_simp; try rfl)
        refine rp_done (by kernel_rfl) ?_
        clear r1 r2 r3
        have hx := st3_cells HR4.out (.int .i64 x) (.int .i64 y) (.slice none 0 0)
        have HBf := Lib.hid ((((HB4.out.setCell (p := ⟨w.heap.size, 0, none⟩) (Nat.le_refl _) (.int .i64 x)).setCell (p := ⟨w.heap.size, 1, none⟩) (Nat.le_refl _) (.int .i64 y)).setCell (p := ⟨w.heap.size, 2, none⟩) (Nat.le_refl _) (.slice none 0 0)).drew)
        have hSO := Lib.hid (show shownOk b = false by have h2 := HPO.out; rw [HRb.out] at h2; simp [shownOk, h2])
        go_wp2
        refine bodyPost_ret (v := .tuple #[.agg #[.int .i64 x, .int .i64 y, .slice none 0 0], .int .i64 4]) (by simp [results, Try.results39, go_sem, hx]) rfl ?_
        exact ⟨.inr ⟨hSO.out, _, _, rfl⟩, HBf.out⟩
  · obtain ⟨r1, r2, r3⟩ := HR1.out.all
    have hx := st3_cells HR1.out (.int .i64 0) (.int .i64 0) (.slice none 0 0)
    have HBf := Lib.hid (((HB1.out.setCell (p := ⟨w.heap.size, 0, none⟩) (Nat.le_refl _) (.int .i64 0)).setCell (p := ⟨w.heap.size, 1, none⟩) (Nat.le_refl _) (.int .i64 0)).setCell (p := ⟨w.heap.size, 2, none⟩) (Nat.le_refl _) (.slice none 0 0))
    have hN := Lib.hid (show shownOk b = false by
      have : tot [1, 1] = 2 := rfl
      simp [shownOk]; omega)
    clear hfew
    go_wp2
    refine bodyPost_ret (v := .tuple #[.agg #[.int .i64 0, .int .i64 0, .slice none 0 0], .int .i64 4]) (by simp [results, Try.results39, go_sem, hx]) rfl ?_
    exact ⟨.inr ⟨hN.out, 0, 0, rfl⟩, HBf.out⟩
end Go.Proofs.Ytpknhpfbinplgaa
end

/-
rec.Read.
-/
section
namespace Go.Proofs.Ytpknhpfbinplgaa
open Go.RowKit
attribute [local go_sem ↓] Go.wp_at_zero Go.wp_at_succ

def noImg : Img := ⟨0, 0, []⟩
/-- The record that bytes would be. -/
def parseR (b : List UInt8) : Rc := ⟨(nums szR b).getD 0 0, (nums szR b).getD 1 0, (nums szR b).getD 2 0, (nums szR b).getD 3 0, (nums szR b).getD 4 0, if (nums szR b).getD 0 0 = 1 then imgOf (b.drop 11) else noImg⟩
def readR (g : Geo) (b : List UInt8) : Option Rc :=
  if 11 ≤ b.length ∧ ((parseR b).kind = 1 → shownOk (b.drop 11) = true) ∧ okR g (parseR b) = true ∧ recB (parseR b) = b then some (parseR b) else none
def zeroR : Value := .agg #[.int .i64 0, .int .i64 0, .int .i64 0, .int .i64 0, .int .i64 0, .int .i64 0, .int .i64 0, .slice none 0 0]
def RreadP (w' : World) (base : Nat) (g : Geo) (b : List UInt8) (e : Ending) : Prop :=
  (okG g = false ∧ e = .returned (.tuple #[zeroR, .int .i64 1])) ∨
  (okG g = true ∧ readR g b = none ∧ e = .returned (.tuple #[zeroR, .int .i64 4])) ∨
  (okG g = true ∧ ∃ v r, readR g b = some r ∧ e = .returned (.tuple #[rv r v, .int .i64 0]) ∧ OwR w' noM base 5 v r.img.bytes)
theorem st8_cells {w : World} {b : Nat} {t : TypeId} {a0 a1 a2 a3 a4 a5 a6 a7 : Value} (h : Blk w b t #[a0, a1, a2, a3, a4, a5, a6, a7]) (x0 x1 x2 x3 x4 x5 x6 x7 : Value) (i : Nat) :
    ((((((((w.setCell ⟨b, 0, none⟩ x0).setCell ⟨b, 1, none⟩ x1).setCell ⟨b, 2, none⟩ x2).setCell ⟨b, 3, none⟩ x3).setCell ⟨b, 4, none⟩ x4).setCell ⟨b, 5, none⟩ x5).setCell ⟨b, 6, none⟩ x6).setCell ⟨b, 7, none⟩ x7).cell? ⟨b, i, none⟩ = #[x0, x1, x2, x3, x4, x5, x6, x7][i]? :=
  have b0 : Blk (w.setCell ⟨b, 0, none⟩ x0) b t #[x0, a1, a2, a3, a4, a5, a6, a7] := h.set_ 0 x0
  have b1 : Blk _ b t #[x0, x1, a2, a3, a4, a5, a6, a7] := b0.set_ 1 x1
  have b2 : Blk _ b t #[x0, x1, x2, a3, a4, a5, a6, a7] := b1.set_ 2 x2
  have b3 : Blk _ b t #[x0, x1, x2, x3, a4, a5, a6, a7] := b2.set_ 3 x3
  have b4 : Blk _ b t #[x0, x1, x2, x3, x4, a5, a6, a7] := b3.set_ 4 x4
  have b5 : Blk _ b t #[x0, x1, x2, x3, x4, x5, a6, a7] := b4.set_ 5 x5
  have b6 : Blk _ b t #[x0, x1, x2, x3, x4, x5, x6, a7] := b5.set_ 6 x6
  have b7 : Blk _ b t #[x0, x1, x2, x3, x4, x5, x6, x7] := b6.set_ 7 x7
  b7.cell i
theorem below_st8 {w0 w : World} {n : Nat} (h : Below n w0 w) {b : Nat} (hb : n ≤ b) (x0 x1 x2 x3 x4 x5 x6 x7 : Value) :
    Below n w0 ((((((((w.setCell ⟨b, 0, none⟩ x0).setCell ⟨b, 1, none⟩ x1).setCell ⟨b, 2, none⟩ x2).setCell ⟨b, 3, none⟩ x3).setCell ⟨b, 4, none⟩ x4).setCell ⟨b, 5, none⟩ x5).setCell ⟨b, 6, none⟩ x6).setCell ⟨b, 7, none⟩ x7) :=
  (((((((h.setCell (p := ⟨b, 0, none⟩) hb x0).setCell (p := ⟨b, 1, none⟩) hb x1).setCell (p := ⟨b, 2, none⟩) hb x2).setCell (p := ⟨b, 3, none⟩) hb x3).setCell (p := ⟨b, 4, none⟩) hb x4).setCell (p := ⟨b, 5, none⟩) hb x5).setCell (p := ⟨b, 6, none⟩) hb x6).setCell (p := ⟨b, 7, none⟩) hb x7
theorem ow_st8 {w : World} {M : Ms} {base : Nat} {e : TypeId} {v : Value} {l : List UInt8} (h : OwR w M base e v l) {b : Nat} (hb : v.ownBlock ≠ some b) (x0 x1 x2 x3 x4 x5 x6 x7 : Value) :
    OwR ((((((((w.setCell ⟨b, 0, none⟩ x0).setCell ⟨b, 1, none⟩ x1).setCell ⟨b, 2, none⟩ x2).setCell ⟨b, 3, none⟩ x3).setCell ⟨b, 4, none⟩ x4).setCell ⟨b, 5, none⟩ x5).setCell ⟨b, 6, none⟩ x6).setCell ⟨b, 7, none⟩ x7) M base e v l :=
  (((((((h.setP plU (p := ⟨b, 0, none⟩) hb x0).setP plU (p := ⟨b, 1, none⟩) hb x1).setP plU (p := ⟨b, 2, none⟩) hb x2).setP plU (p := ⟨b, 3, none⟩) hb x3).setP plU (p := ⟨b, 4, none⟩) hb x4).setP plU (p := ⟨b, 5, none⟩) hb x5).setP plU (p := ⟨b, 6, none⟩) hb x6).setP plU (p := ⟨b, 7, none⟩) hb x7
theorem imgOf_len (b : List UInt8) : (imgOf b).bytes.length ≤ b.length := by
  simp only [imgOf]
  rw [List.length_take, List.length_drop, List.length_drop]
  omega
theorem nums5 (b : List UInt8) : ∃ k s e a o, nums szR b = [k, s, e, a, o] ∧ parseR b = ⟨k, s, e, a, o, if k = 1 then imgOf (b.drop 11) else noImg⟩ := ⟨_, _, _, _, _, rfl, rfl⟩
theorem OwR.int5 {w : World} {M : Ms} {base : Nat} {e : TypeId} {v : Value} {x0 x1 x2 x3 x4 : Int} (h : OwR w M base e v [x0, x1, x2, x3, x4]) : ∃ B c, v = .slice (some ⟨B, 0, none⟩) 5 c ∧ base ≤ B ∧ ∀ i, i < 5 → w.cell? ⟨B, i, none⟩ = #[.int .i64 x0, .int .i64 x1, .int .i64 x2, .int .i64 x3, .int .i64 x4][i]? := by
  obtain ⟨B, c, cs, rfl, hb, -, -, he, hc⟩ := h.at_ (k := 0) (by simp)
  refine ⟨B, c, rfl, hb, fun i hi => ?_⟩
  obtain ⟨b', off, e1, -, x1⟩ := int_at (h.sl' (M := noM) (fun _ _ h => h)) (k := i) (by simpa using hi)
  cases e1
  rw [Nat.zero_add] at x1
  match i, hi with
  | 0, _ => exact x1
  | 1, _ => exact x1
  | 2, _ => exact x1
  | 3, _ => exact x1
  | 4, _ => exact x1

set_option maxRecDepth 100000 in
set_option maxHeartbeats 16000000 in
theorem rread_any (g : Geo) (v : Value) (b : List UInt8) (w : World) (Mi : Ms) (h : SlR w Mi v b) (hl : b.length ≤ 100000) :
    Calls Try.prog 11 #[gv g, v] w fun e w' => RreadP w' w.heap.size g b e ∧ Below w.heap.size w w' := by
  obtain ⟨z, d, sp, sl, an⟩ := g
  obtain ⟨a, c, rfl⟩ := h.form
  have hb1 := (Below.refl w.heap.size w).alloc (Nat.le_refl _) (.cells #[.int .i64 z, .int .i64 d, .int .i64 sp, .int .i64 sl, .int .i64 an] 23)
  have hb2 := hb1.alloc (by simp) (.cells #[.int .i64 0, .int .i64 0, .int .i64 0, .int .i64 0, .int .i64 0, .int .i64 0, .int .i64 0, .slice none 0 0] 28)
  have hG := (Blk.new w 23 #[.int .i64 z, .int .i64 d, .int .i64 sp, .int .i64 sl, .int .i64 an]).alloc (.cells #[.int .i64 0, .int .i64 0, .int .i64 0, .int .i64 0, .int .i64 0, .int .i64 0, .int .i64 0, .slice none 0 0] 28)
  have hR := Blk.new (w.alloc (.cells #[.int .i64 z, .int .i64 d, .int .i64 sp, .int .i64 sl, .int .i64 an] 23)) 28 #[.int .i64 0, .int .i64 0, .int .i64 0, .int .i64 0, .int .i64 0, .int .i64 0, .int .i64 0, .slice none 0 0]
  simp only [World.size_alloc] at hR
  have HB := Lib.hid hb2
  have HG := Lib.hid hG
  have HR := Lib.hid hR
  have H := Lib.hid h.bare
  have hck := Lib.hid (gcheck_any ⟨z, d, sp, sl, an⟩ ((w.alloc (.cells #[.int .i64 z, .int .i64 d, .int .i64 sp, .int .i64 sl, .int .i64 an] 23)).alloc (.cells #[.int .i64 0, .int .i64 0, .int .i64 0, .int .i64 0, .int .i64 0, .int .i64 0, .int .i64 0, .slice none 0 0] 28)))
  unfold gv at hck ⊢
  simp only at hck ⊢
  clear hb1 hb2 hG hR h
  cases hok : okG ⟨z, d, sp, sl, an⟩ with
  | false =>
    have hE := Lib.hid hok
    rw [hok] at hck
    unfold errV at hck
    clear hok
    go_enter Try.func11, Try.ntmps11
    go_wp2_with fail
    ((with_reducible refine hck.out.mono ?_); rintro e w1 ⟨rfl, hB1⟩)
    have hR1 := HR.out.below hB1
    obtain ⟨r1, r2, r3⟩ := hR1.all
    have hx := st8_cells hR1 (.int .i64 0) (.int .i64 0) (.int .i64 0) (.int .i64 0) (.int .i64 0) (.int .i64 0) (.int .i64 0) (.slice none 0 0)
    have HBf := Lib.hid (below_st8 (HB.out.trans (hB1.mono HB.out.size)) (Nat.le_succ _) (.int .i64 0) (.int .i64 0) (.int .i64 0) (.int .i64 0) (.int .i64 0) (.int .i64 0) (.int .i64 0) (.slice none 0 0))
    clear hR1
    go_wp2
    refine bodyPost_ret (v := .tuple #[.agg #[.int .i64 0, .int .i64 0, .int .i64 0, .int .i64 0, .int .i64 0, .int .i64 0, .int .i64 0, .slice none 0 0], .int .i64 1]) (by simp [results, Try.results11, go_sem, hx]) rfl ?_
    exact ⟨.inl ⟨hE.out, rfl⟩, HBf.out⟩
  | true =>
    have hE := Lib.hid hok
    rw [hok] at hck
    unfold errV at hck
    clear hok
    have hgb := Lib.hid (fun r v w' => rbytes_any ⟨z, d, sp, sl, an⟩ r v w')
    go_enter Try.func11, Try.ntmps11
    go_wp2_with fail
    ((with_reducible refine hck.out.mono ?_); rintro e w1 ⟨rfl, hB1⟩)
    have HB1 := Lib.hid (HB.out.trans (hB1.mono HB.out.size))
    have HG1 := Lib.hid (HG.out.below hB1)
    have HR1 := Lib.hid (HR.out.below hB1)
    clear hB1 hck HB HG HR
    go_wp2_with fail
    refine (sizes_any _).mono ?_
    rintro e w2 ⟨rfl, rfl⟩
    have hbs := (Below.refl w1.heap.size w1).alloc (Nat.le_refl _) (.cells #[.int .i64 1, .int .i64 4, .int .i64 4, .int .i64 1, .int .i64 1] 3)
    have hun := Lib.hid (unrow_any _ _ b szR _ noM noM (H.out.mono (Keep.below (HB1.out.trans (hbs.mono HB1.out.size)))) ((OwR.litI w1 noM szR (by simp)).sl (fun _ _ h => h)) (by decide) (by omega) (by simp))
    simp only [List.map_cons, List.map_nil, List.length_cons, List.length_nil, Nat.reduceAdd] at hun
    have HBS := Lib.hid hbs
    clear hbs
    go_wp2_with fail
    ((with_reducible refine hun.out.mono ?_); rintro e w2 ⟨hU, hB2⟩)
    have HB12 := Lib.hid (HBS.out.trans (hB2.mono HBS.out.size))
    have HB2 := Lib.hid (HB1.out.trans (HB12.out.mono HB1.out.size))
    have HG2 := Lib.hid (HG1.out.below HB12.out)
    have HR2 := Lib.hid (HR1.out.below HB12.out)
    clear hB2 hun
    rcases hU with ⟨hfit, v1, v2, rfl, ho1, ho2⟩ | ⟨hfew, rfl⟩
    · have hT : tot szR = 11 := rfl
      rw [hT] at hfit ho2
      obtain ⟨xk, xs, xe, xa, xo, hn5, hpr⟩ := nums5 b
      rw [hn5] at ho1
      obtain ⟨B, cB, rfl, hBB, y⟩ := ho1.int5
      obtain ⟨a2, c2, rfl⟩ := ho2.form
      have HPR := Lib.hid (And.intro hfit hpr)
      have HO2 := Lib.hid ho2
      have hS := Lib.hid (show ∀ i, i < 5 → w2.drew.cell? ⟨B, i, none⟩ = #[.int .i64 xk, .int .i64 xs, .int .i64 xe, .int .i64 xa, .int .i64 xo][i]? from y)
      obtain ⟨R, hR⟩ : ∃ R, R = b.drop 11 := ⟨_, rfl⟩
      rw [← hR] at HO2 ⊢
      have HRe := Lib.hid hR
      clear hfit hpr hn5 ho1 ho2 y hT hR
      go_wp2_with fail
      refine rp_enter [2, 5, 8, 11, 14] (fun W => ∀ i, i < 5 → W.cell? ⟨B, i, none⟩ = #[.int .i64 xk, .int .i64 xs, .int .i64 xe, .int .i64 xa, .int .i64 xo][i]?) (by kernel_rfl) ?_
      apply rp_pure 0 rfl (by kernel_rfl) (fun _ _ _ h => h) rfl
      · (intro W; go_simp; try rfl)
      · (go_simp; try rfl)
      apply rp_pure 1 rfl (by kernel_rfl) (fun _ _ _ h => h) rfl
      · (intro W; go_simp; try rfl)
      · (go_simp; try rfl)
      apply rp_take 2 rfl (by kernel_rfl) (fun _ _ _ h => h) (hS.out) rfl
      · (rintro W hW0; have s := hW0 0 (by omega); clear hW0; go_simp; try rfl)
      · (go_simp; try rfl)
      apply rp_pure 3 rfl (by kernel_rfl) (fun _ _ _ h => h) rfl
      · (intro W; go_simp; try rfl)
      · (go_simp; try rfl)
      apply rp_pure 4 rfl (by kernel_rfl) (fun _ _ _ h => h) rfl
      · (intro W; go_simp; try rfl)
      · (go_simp; try rfl)
      apply rp_take 5 rfl (by kernel_rfl) (fun _ _ _ h => h) (hS.out) rfl
      · (rintro W hW0; have s := hW0 1 (by omega); clear hW0; go_simp; try rfl)
      · (go_simp; try rfl)
      apply rp_pure 6 rfl (by kernel_rfl) (fun _ _ _ h => h) rfl
      · (intro W; go_simp; try rfl)
      · (go_simp; try rfl)
      apply rp_pure 7 rfl (by kernel_rfl) (fun _ _ _ h => h) rfl
      · (intro W; go_simp; try rfl)
      · (go_simp; try rfl)
      apply rp_take 8 rfl (by kernel_rfl) (fun _ _ _ h => h) (hS.out) rfl
      · (rintro W hW0; have s := hW0 2 (by omega); clear hW0; go_simp; try rfl)
      · (go_simp; try rfl)
      apply rp_pure 9 rfl (by kernel_rfl) (fun _ _ _ h => h) rfl
      · (intro W; go_simp; try rfl)
      · (go_simp; try rfl)
      apply rp_pure 10 rfl (by kernel_rfl) (fun _ _ _ h => h) rfl
      · (intro W; go_simp; try rfl)
      · (go_simp; try rfl)
      apply rp_take 11 rfl (by kernel_rfl) (fun _ _ _ h => h) (hS.out) rfl
      · (rintro W hW0; have s := hW0 3 (by omega); clear hW0; go_simp; try rfl)
      · (go_simp; try rfl)
      apply rp_pure 12 rfl (by kernel_rfl) (fun _ _ _ h => h) rfl
      · (intro W; go_simp; try rfl)
      · (go_simp; try rfl)
      apply rp_pure 13 rfl (by kernel_rfl) (fun _ _ _ h => h) rfl
      · (intro W; go_simp; try rfl)
      · (go_simp; try rfl)
      apply rp_take 14 rfl (by kernel_rfl) (fun _ _ _ h => h) (hS.out) rfl
      · (rintro W hW0; have s := hW0 4 (by omega); clear hW0; go_simp; try rfl)
      · (go_simp; try rfl)
      apply rp_pure 15 rfl (by kernel_rfl) (fun _ _ _ h => h) rfl
      · (intro W; go_simp; try rfl)
      · (go_simp; try rfl)
      refine rp_only 16 (by kernel_rfl) rfl (fun K hK => ?_)
      go_simp
      have hBl : B < w2.heap.size := World.block_lt_of_cell? w2 ⟨B, 0, none⟩ (hS.out 0 (by omega))
      have hbA := ((Below.refl w2.heap.size w2).alloc (Nat.le_refl _) (.cells #[.int .i64 0, .int .i64 0, .int .i64 0, .int .i64 0, .int .i64 0, .int .i64 0, .int .i64 0, .slice none 0 0] 28)).drew
      have hS2 := Lib.hid (fun (i : Nat) (hi : i < 5) => ((bcell hbA).1 B i hBl).trans (hS.out i hi))
      refine hK _ _ ⟨fun _ _ => hS2.out, ?_⟩; clear hK K
      obtain ⟨q1, q2, q3⟩ := (Blk.new w2 28 #[.int .i64 0, .int .i64 0, .int .i64 0, .int .i64 0, .int .i64 0, .int .i64 0, .int .i64 0, .slice none 0 0]).all
      clear hbA
      refine rp_free 17 (by kernel_rfl) (by kernel_rfl) rfl (fun K hK => ?_)
      go_simp
      refine hK _ _ ?_; clear hK K q1 q2 q3
      refine rp_done (by kernel_rfl) ?_
      have hbW := ((Below.refl w2.heap.size w2).alloc (Nat.le_refl _) (.cells #[.int .i64 xk, .int .i64 xs, .int .i64 xe, .int .i64 xa, .int .i64 xo, .int .i64 0, .int .i64 0, .slice none 0 0] 28)).drew
      have HBW := Lib.hid (HB2.out.trans (hbW.mono HB2.out.size))
      have HGW := Lib.hid (HG2.out.below hbW)
      have HRW := Lib.hid (HR2.out.below hbW)
      have HQW := Lib.hid ((Blk.new w2 28 #[.int .i64 xk, .int .i64 xs, .int .i64 xe, .int .i64 xa, .int .i64 xo, .int .i64 0, .int .i64 0, .slice none 0 0]).drew)
      have HOW := Lib.hid ((HO2.out.below hbW).mono_base (base' := w.heap.size) (Nat.le_trans HB1.out.size HBS.out.size))
      have HQl := Lib.hid (show w.heap.size + 1 < w2.heap.size from HR2.out.lt)
      clear hbW hS hS2 hBl hBB HO2
      obtain ⟨W, hW⟩ : ∃ W, W = (w2.alloc (.cells #[.int .i64 xk, .int .i64 xs, .int .i64 xe, .int .i64 xa, .int .i64 xo, .int .i64 0, .int .i64 0, .slice none 0 0] 28)).drew := ⟨_, rfl⟩
      rw [← hW] at HBW HGW HRW HQW HOW ⊢
      clear hW
      obtain ⟨q, hq⟩ : ∃ q, q = w2.heap.size := ⟨_, rfl⟩
      rw [← hq] at HQW HQl ⊢
      clear hq
      obtain ⟨q1, q2, q3⟩ := HQW.out.all
      by_cases hk : xk = 1
      · subst hk
        have hsh := Lib.hid (shown_any _ R W noM (HOW.out.sl (fun _ _ h => h)) (by have := HRe.out; rw [this, List.length_drop]; omega))
        go_wp2_with fail
        ((with_reducible refine hsh.out.mono ?_); rintro e w7 ⟨hU, hB7⟩)
        clear q1 q2 q3
        have HB7 := Lib.hid (HBW.out.trans (hB7.mono HBW.out.size))
        have HG7 := Lib.hid (HGW.out.below hB7)
        have HR7 := Lib.hid (HRW.out.below hB7)
        have HQ7 := Lib.hid (HQW.out.below hB7)
        have HWl := Lib.hid HQW.out.lt
        clear hB7 hsh
        obtain ⟨q1, q2, q3⟩ := HQ7.out.all
        rcases hU with ⟨hso, vI, rfl, hoI⟩ | ⟨hsn, x, y, rfl⟩
        · obtain ⟨aI, cI, rfl⟩ := hoI.form
          have HVI := Lib.hid hoI
          have HSO := Lib.hid hso
          clear hoI hso
          obtain ⟨g1, g2, g3⟩ := HG7.out.all
          go_wp2_with fail
          clear q1 q2 q3 g1 g2 g3
          have HB8 := Lib.hid (((HB7.out.setCell (p := ⟨q, 5, none⟩) (by have := HQl.out; simp; omega) (.int .i64 (imgOf R).zone)).setCell (p := ⟨q, 6, none⟩) (by have := HQl.out; simp; omega) (.int .i64 (imgOf R).what)).setCell (p := ⟨q, 7, none⟩) (by have := HQl.out; simp; omega) (.slice aI (imgOf R).bytes.length cI))
          have HG8 := Lib.hid (((HG7.out.far (p := ⟨q, 5, none⟩) (by have := HQl.out; simp; omega) (.int .i64 (imgOf R).zone)).far (p := ⟨q, 6, none⟩) (by have := HQl.out; simp; omega) (.int .i64 (imgOf R).what)).far (p := ⟨q, 7, none⟩) (by have := HQl.out; simp; omega) (.slice aI (imgOf R).bytes.length cI))
          have HR8 := Lib.hid (((HR7.out.far (p := ⟨q, 5, none⟩) (by have := HQl.out; simp; omega) (.int .i64 (imgOf R).zone)).far (p := ⟨q, 6, none⟩) (by have := HQl.out; simp; omega) (.int .i64 (imgOf R).what)).far (p := ⟨q, 7, none⟩) (by have := HQl.out; simp; omega) (.slice aI (imgOf R).bytes.length cI))
          have HQ8 : Hid (Blk (((w7.setCell ⟨q, 5, none⟩ (.int .i64 (imgOf R).zone)).setCell ⟨q, 6, none⟩ (.int .i64 (imgOf R).what)).setCell ⟨q, 7, none⟩ (.slice aI (imgOf R).bytes.length cI)) q 28 #[.int .i64 1, .int .i64 xs, .int .i64 xe, .int .i64 xa, .int .i64 xo, .int .i64 (imgOf R).zone, .int .i64 (imgOf R).what, .slice aI (imgOf R).bytes.length cI]) := Lib.hid (((HQ7.out.set_ 5 (.int .i64 (imgOf R).zone)).set_ 6 (.int .i64 (imgOf R).what)).set_ 7 (.slice aI (imgOf R).bytes.length cI))
          have hnq : (.slice aI (imgOf R).bytes.length cI : Value).ownBlock ≠ some q := fun e => by have := HVI.out.own_ge e; have := HWl.out; omega
          have HVI8 := Lib.hid (And.intro (((HVI.out.setP plU (p := ⟨q, 5, none⟩) hnq (.int .i64 (imgOf R).zone)).setP plU (p := ⟨q, 6, none⟩) hnq (.int .i64 (imgOf R).what)).setP plU (p := ⟨q, 7, none⟩) hnq (.slice aI (imgOf R).bytes.length cI)) trivial)
          clear hnq
          obtain ⟨W8, hW8⟩ : ∃ W8, W8 = ((w7.setCell ⟨q, 5, none⟩ (.int .i64 (imgOf R).zone)).setCell ⟨q, 6, none⟩ (.int .i64 (imgOf R).what)).setCell ⟨q, 7, none⟩ (.slice aI (imgOf R).bytes.length cI) := ⟨_, rfl⟩
          rw [← hW8] at HB8 HG8 HR8 HQ8 HVI8 ⊢
          clear hW8
          have hby := Lib.hid (hgb.out ⟨1, xs, xe, xa, xo, imgOf R⟩ (.slice aI (imgOf R).bytes.length cI) W8 noM (HVI8.out.1.sl (fun _ _ h => h)) (Nat.le_trans (imgOf_len R) (by rw [HRe.out, List.length_drop]; omega)))
          unfold gv rv at hby

          ((with_reducible refine hby.out.mono ?_); rintro e w9 ⟨hU, hB9⟩)
          have HB9 := Lib.hid (HB8.out.trans (hB9.mono HB8.out.size))
          have HR9 := Lib.hid (HR8.out.below hB9)
          have HQ9 := Lib.hid (HQ8.out.below hB9)
          have HV9 := Lib.hid (HVI8.out.1.below hB9)
          clear hB9 hby
          have HRR := Lib.hid (show parseR b = ⟨1, xs, xe, xa, xo, imgOf R⟩ by
            have hpr := HPR.out.2
            simp only [if_true, ← HRe.out] at hpr
            exact hpr)
          rcases hU with ⟨hok, vb, rfl, hob⟩ | ⟨hno, rfl⟩
          · have heq := Lib.hid (equal_any vb (.slice a b.length c) (recB ⟨1, xs, xe, xa, xo, imgOf R⟩) b w9 noM noM (hob.sl (fun _ _ h => h)) (H.out.mono (Keep.below HB9.out)))
            obtain ⟨ab, cb, rfl⟩ := hob.form
            have HOK := Lib.hid hok
            clear hok hob
            cases hd : decide (recB ⟨1, xs, xe, xa, xo, imgOf R⟩ = b) with
            | false =>
              have HN := Lib.hid (show readR ⟨z, d, sp, sl, an⟩ b = none by
                rw [readR, if_neg]
                rintro ⟨h1, h2, h3, h4⟩
                rw [HRR.out] at h4
                simp [h4] at hd)
              rw [hd] at heq
              clear hd
              have hR9 := HR9.out
              obtain ⟨r1, r2, r3⟩ := hR9.all
              have hx := st8_cells hR9 (.int .i64 0) (.int .i64 0) (.int .i64 0) (.int .i64 0) (.int .i64 0) (.int .i64 0) (.int .i64 0) (.slice none 0 0)
              have HBf := Lib.hid (below_st8 HB9.out (Nat.le_succ _) (.int .i64 0) (.int .i64 0) (.int .i64 0) (.int .i64 0) (.int .i64 0) (.int .i64 0) (.int .i64 0) (.slice none 0 0))
              clear hR9
              go_wp2_with (go_at_call 40; go_must (with_reducible refine heq.out.mono ?_); rintro e w10 ⟨rfl, rfl⟩)
              refine bodyPost_ret (v := .tuple #[.agg #[.int .i64 0, .int .i64 0, .int .i64 0, .int .i64 0, .int .i64 0, .int .i64 0, .int .i64 0, .slice none 0 0], .int .i64 4]) (by simp [results, Try.results11, go_sem, hx]) rfl ?_
              exact ⟨.inr (.inl ⟨hE.out, HN.out, rfl⟩), HBf.out⟩
            | true =>
              have HY := Lib.hid (show readR ⟨z, d, sp, sl, an⟩ b = some ⟨1, xs, xe, xa, xo, imgOf R⟩ by
                rw [readR, if_pos, HRR.out]
                rw [HRR.out]
                exact ⟨HPR.out.1, fun _ => by rw [← HRe.out]; exact HSO.out, HOK.out, by simpa using hd⟩)
              rw [hd] at heq
              clear hd
              have hR9 := HR9.out
              obtain ⟨r1, r2, r3⟩ := hR9.all
              obtain ⟨q1, q2, q3⟩ := HQ9.out.all
              have hx := st8_cells hR9 (.int .i64 1) (.int .i64 xs) (.int .i64 xe) (.int .i64 xa) (.int .i64 xo) (.int .i64 (imgOf R).zone) (.int .i64 (imgOf R).what) (.slice aI (imgOf R).bytes.length cI)
              have HBf := Lib.hid (below_st8 HB9.out (Nat.le_succ _) (.int .i64 1) (.int .i64 xs) (.int .i64 xe) (.int .i64 xa) (.int .i64 xo) (.int .i64 (imgOf R).zone) (.int .i64 (imgOf R).what) (.slice aI (imgOf R).bytes.length cI))
              clear hR9
              go_wp2_with (go_at_call 40; go_must (with_reducible refine heq.out.mono ?_); rintro e w10 ⟨rfl, rfl⟩)
              refine bodyPost_ret (v := .tuple #[.agg #[.int .i64 1, .int .i64 xs, .int .i64 xe, .int .i64 xa, .int .i64 xo, .int .i64 (imgOf R).zone, .int .i64 (imgOf R).what, .slice aI (imgOf R).bytes.length cI], .int .i64 0]) (by simp [results, Try.results11, go_sem, hx]) rfl ?_
              exact ⟨.inr (.inr ⟨hE.out, _, _, HY.out, rfl, ow_st8 (HV9.out.mono_base HBW.out.size) (fun e => by have := HV9.out.own_ge e; have := HWl.out; have := HQl.out; omega) _ _ _ _ _ _ _ _⟩), HBf.out⟩
          · have HN := Lib.hid (show readR ⟨z, d, sp, sl, an⟩ b = none by
              rw [readR, if_neg]
              rintro ⟨h1, h2, h3, h4⟩
              rw [HRR.out] at h3
              exact absurd (h3.symm.trans hno) (by simp))
            clear hno
            have hR9 := HR9.out
            obtain ⟨r1, r2, r3⟩ := hR9.all
            have hx := st8_cells hR9 (.int .i64 0) (.int .i64 0) (.int .i64 0) (.int .i64 0) (.int .i64 0) (.int .i64 0) (.int .i64 0) (.slice none 0 0)
            have HBf := Lib.hid (below_st8 HB9.out (Nat.le_succ _) (.int .i64 0) (.int .i64 0) (.int .i64 0) (.int .i64 0) (.int .i64 0) (.int .i64 0) (.int .i64 0) (.slice none 0 0))
            clear hR9
            go_wp2
            refine bodyPost_ret (v := .tuple #[.agg #[.int .i64 0, .int .i64 0, .int .i64 0, .int .i64 0, .int .i64 0, .int .i64 0, .int .i64 0, .slice none 0 0], .int .i64 4]) (by simp [results, Try.results11, go_sem, hx]) rfl ?_
            exact ⟨.inr (.inl ⟨hE.out, HN.out, rfl⟩), HBf.out⟩
        · have HSN := Lib.hid hsn
          clear hsn
          obtain ⟨g1, g2, g3⟩ := HG7.out.all
          go_wp2_with fail
          clear q1 q2 q3 g1 g2 g3
          have HB8 := Lib.hid (((HB7.out.setCell (p := ⟨q, 5, none⟩) (by have := HQl.out; simp; omega) (.int .i64 x)).setCell (p := ⟨q, 6, none⟩) (by have := HQl.out; simp; omega) (.int .i64 y)).setCell (p := ⟨q, 7, none⟩) (by have := HQl.out; simp; omega) (.slice none 0 0))
          have HG8 := Lib.hid (((HG7.out.far (p := ⟨q, 5, none⟩) (by have := HQl.out; simp; omega) (.int .i64 x)).far (p := ⟨q, 6, none⟩) (by have := HQl.out; simp; omega) (.int .i64 y)).far (p := ⟨q, 7, none⟩) (by have := HQl.out; simp; omega) (.slice none 0 0))
          have HR8 := Lib.hid (((HR7.out.far (p := ⟨q, 5, none⟩) (by have := HQl.out; simp; omega) (.int .i64 x)).far (p := ⟨q, 6, none⟩) (by have := HQl.out; simp; omega) (.int .i64 y)).far (p := ⟨q, 7, none⟩) (by have := HQl.out; simp; omega) (.slice none 0 0))
          have HQ8 : Hid (Blk (((w7.setCell ⟨q, 5, none⟩ (.int .i64 x)).setCell ⟨q, 6, none⟩ (.int .i64 y)).setCell ⟨q, 7, none⟩ (.slice none 0 0)) q 28 #[.int .i64 1, .int .i64 xs, .int .i64 xe, .int .i64 xa, .int .i64 xo, .int .i64 x, .int .i64 y, .slice none 0 0]) := Lib.hid (((HQ7.out.set_ 5 (.int .i64 x)).set_ 6 (.int .i64 y)).set_ 7 (.slice none 0 0))
          obtain ⟨W8, hW8⟩ : ∃ W8, W8 = ((w7.setCell ⟨q, 5, none⟩ (.int .i64 x)).setCell ⟨q, 6, none⟩ (.int .i64 y)).setCell ⟨q, 7, none⟩ (.slice none 0 0) := ⟨_, rfl⟩
          rw [← hW8] at HB8 HG8 HR8 HQ8  ⊢
          clear hW8
          have hby := Lib.hid (hgb.out ⟨1, xs, xe, xa, xo, ⟨x, y, []⟩⟩ (.slice none 0 0) W8 noM (sl_nil _ _ 0 (by simp [maxLen])) (by simp [noImg]))
          unfold gv rv at hby
          simp only at hby
          ((with_reducible refine hby.out.mono ?_); rintro e w9 ⟨hU, hB9⟩)
          have HB9 := Lib.hid (HB8.out.trans (hB9.mono HB8.out.size))
          have HR9 := Lib.hid (HR8.out.below hB9)
          have HQ9 := Lib.hid (HQ8.out.below hB9)
          clear hB9 hby
          have HN := Lib.hid (show readR ⟨z, d, sp, sl, an⟩ b = none by
            rw [readR, if_neg]
            rintro ⟨h1, h2, h3, h4⟩
            have h5 := h2 (by rw [HPR.out.2])
            rw [← HRe.out, HSN.out] at h5
            cases h5)
          rcases hU with ⟨-, vb, rfl, hob⟩ | ⟨-, rfl⟩
          · obtain ⟨ab, cb, rfl⟩ := hob.form
            clear hob
            have hR9 := HR9.out
            obtain ⟨r1, r2, r3⟩ := hR9.all
            have hx := st8_cells hR9 (.int .i64 0) (.int .i64 0) (.int .i64 0) (.int .i64 0) (.int .i64 0) (.int .i64 0) (.int .i64 0) (.slice none 0 0)
            have HBf := Lib.hid (below_st8 HB9.out (Nat.le_succ _) (.int .i64 0) (.int .i64 0) (.int .i64 0) (.int .i64 0) (.int .i64 0) (.int .i64 0) (.int .i64 0) (.slice none 0 0))
            clear hR9
            go_wp2
            refine bodyPost_ret (v := .tuple #[.agg #[.int .i64 0, .int .i64 0, .int .i64 0, .int .i64 0, .int .i64 0, .int .i64 0, .int .i64 0, .slice none 0 0], .int .i64 4]) (by simp [results, Try.results11, go_sem, hx]) rfl ?_
            exact ⟨.inr (.inl ⟨hE.out, HN.out, rfl⟩), HBf.out⟩
          · skip
            have hR9 := HR9.out
            obtain ⟨r1, r2, r3⟩ := hR9.all
            have hx := st8_cells hR9 (.int .i64 0) (.int .i64 0) (.int .i64 0) (.int .i64 0) (.int .i64 0) (.int .i64 0) (.int .i64 0) (.slice none 0 0)
            have HBf := Lib.hid (below_st8 HB9.out (Nat.le_succ _) (.int .i64 0) (.int .i64 0) (.int .i64 0) (.int .i64 0) (.int .i64 0) (.int .i64 0) (.int .i64 0) (.slice none 0 0))
            clear hR9
            go_wp2
            refine bodyPost_ret (v := .tuple #[.agg #[.int .i64 0, .int .i64 0, .int .i64 0, .int .i64 0, .int .i64 0, .int .i64 0, .int .i64 0, .slice none 0 0], .int .i64 4]) (by simp [results, Try.results11, go_sem, hx]) rfl ?_
            exact ⟨.inr (.inl ⟨hE.out, HN.out, rfl⟩), HBf.out⟩
      · have hk' : (xk == 1) = false := by simpa using hk
        have hkk := Lib.hid hk
        clear hk q1 q2 q3
        obtain ⟨q1, q2, q3⟩ := HQW.out.all
        have HB8 := HBW
        have HG8 := HGW
        have HR8 := HRW
        have HQ8 := HQW
        obtain ⟨W8, hW8⟩ : ∃ W8, W8 = W := ⟨_, rfl⟩
        rw [← hW8] at HB8 HG8 HR8 HQ8 q1 q2 q3 ⊢
        clear hW8
        obtain ⟨g1, g2, g3⟩ := HG8.out.all
        go_wp2_with fail
        clear q1 q2 q3 g1 g2 g3
        have hby := Lib.hid (hgb.out ⟨xk, xs, xe, xa, xo, noImg⟩ (.slice none 0 0) W8 noM (sl_nil _ _ 0 (by simp [maxLen])) (by simp [noImg]))
        unfold gv rv at hby
        simp only [noImg] at hby
        ((with_reducible refine hby.out.mono ?_); rintro e w9 ⟨hU, hB9⟩)
        have HB9 := Lib.hid (HB8.out.trans (hB9.mono HB8.out.size))
        have HR9 := Lib.hid (HR8.out.below hB9)
        have HQ9 := Lib.hid (HQ8.out.below hB9)
        clear hB9 hby
        have HRR := Lib.hid (show parseR b = ⟨xk, xs, xe, xa, xo, noImg⟩ by
          have hpr := HPR.out.2
          simp only [if_neg hkk.out] at hpr
          exact hpr)
        rcases hU with ⟨hok, vb, rfl, hob⟩ | ⟨hno, rfl⟩
        · have heq := Lib.hid (equal_any vb (.slice a b.length c) (recB ⟨xk, xs, xe, xa, xo, noImg⟩) b w9 noM noM (hob.sl (fun _ _ h => h)) (H.out.mono (Keep.below HB9.out)))
          obtain ⟨ab, cb, rfl⟩ := hob.form
          have HOK := Lib.hid hok
          clear hok hob
          cases hd : decide (recB ⟨xk, xs, xe, xa, xo, noImg⟩ = b) with
          | false =>
            have HN := Lib.hid (show readR ⟨z, d, sp, sl, an⟩ b = none by
              rw [readR, if_neg]
              rintro ⟨h1, h2, h3, h4⟩
              rw [HRR.out] at h4
              simp [h4] at hd)
            rw [hd] at heq
            clear hd
            have hR9 := HR9.out
            obtain ⟨r1, r2, r3⟩ := hR9.all
            have hx := st8_cells hR9 (.int .i64 0) (.int .i64 0) (.int .i64 0) (.int .i64 0) (.int .i64 0) (.int .i64 0) (.int .i64 0) (.slice none 0 0)
            have HBf := Lib.hid (below_st8 HB9.out (Nat.le_succ _) (.int .i64 0) (.int .i64 0) (.int .i64 0) (.int .i64 0) (.int .i64 0) (.int .i64 0) (.int .i64 0) (.slice none 0 0))
            clear hR9
            go_wp2_with (go_at_call 40; go_must (with_reducible refine heq.out.mono ?_); rintro e w10 ⟨rfl, rfl⟩)
            refine bodyPost_ret (v := .tuple #[.agg #[.int .i64 0, .int .i64 0, .int .i64 0, .int .i64 0, .int .i64 0, .int .i64 0, .int .i64 0, .slice none 0 0], .int .i64 4]) (by simp [results, Try.results11, go_sem, hx]) rfl ?_
            exact ⟨.inr (.inl ⟨hE.out, HN.out, rfl⟩), HBf.out⟩
          | true =>
            have HY := Lib.hid (show readR ⟨z, d, sp, sl, an⟩ b = some ⟨xk, xs, xe, xa, xo, noImg⟩ by
              rw [readR, if_pos, HRR.out]
              rw [HRR.out]
              exact ⟨HPR.out.1, fun h => absurd h hkk.out, HOK.out, by simpa using hd⟩)
            rw [hd] at heq
            clear hd
            have hR9 := HR9.out
            obtain ⟨r1, r2, r3⟩ := hR9.all
            obtain ⟨q1, q2, q3⟩ := HQ9.out.all
            have hx := st8_cells hR9 (.int .i64 xk) (.int .i64 xs) (.int .i64 xe) (.int .i64 xa) (.int .i64 xo) (.int .i64 0) (.int .i64 0) (.slice none 0 0)
            have HBf := Lib.hid (below_st8 HB9.out (Nat.le_succ _) (.int .i64 xk) (.int .i64 xs) (.int .i64 xe) (.int .i64 xa) (.int .i64 xo) (.int .i64 0) (.int .i64 0) (.slice none 0 0))
            clear hR9
            go_wp2_with (go_at_call 40; go_must (with_reducible refine heq.out.mono ?_); rintro e w10 ⟨rfl, rfl⟩)
            refine bodyPost_ret (v := .tuple #[.agg #[.int .i64 xk, .int .i64 xs, .int .i64 xe, .int .i64 xa, .int .i64 xo, .int .i64 0, .int .i64 0, .slice none 0 0], .int .i64 0]) (by simp [results, Try.results11, go_sem, hx]) rfl ?_
            exact ⟨.inr (.inr ⟨hE.out, _, _, HY.out, rfl, OwR.nil _ _ _ _⟩), HBf.out⟩
        · have HN := Lib.hid (show readR ⟨z, d, sp, sl, an⟩ b = none by
            rw [readR, if_neg]
            rintro ⟨h1, h2, h3, h4⟩
            rw [HRR.out] at h3
            exact absurd (h3.symm.trans hno) (by simp))
          clear hno
          have hR9 := HR9.out
          obtain ⟨r1, r2, r3⟩ := hR9.all
          have hx := st8_cells hR9 (.int .i64 0) (.int .i64 0) (.int .i64 0) (.int .i64 0) (.int .i64 0) (.int .i64 0) (.int .i64 0) (.slice none 0 0)
          have HBf := Lib.hid (below_st8 HB9.out (Nat.le_succ _) (.int .i64 0) (.int .i64 0) (.int .i64 0) (.int .i64 0) (.int .i64 0) (.int .i64 0) (.int .i64 0) (.slice none 0 0))
          clear hR9
          go_wp2
          refine bodyPost_ret (v := .tuple #[.agg #[.int .i64 0, .int .i64 0, .int .i64 0, .int .i64 0, .int .i64 0, .int .i64 0, .int .i64 0, .slice none 0 0], .int .i64 4]) (by simp [results, Try.results11, go_sem, hx]) rfl ?_
          exact ⟨.inr (.inl ⟨hE.out, HN.out, rfl⟩), HBf.out⟩
    · have hR2 := HR2.out
      obtain ⟨r1, r2, r3⟩ := hR2.all
      have hx := st8_cells hR2 (.int .i64 0) (.int .i64 0) (.int .i64 0) (.int .i64 0) (.int .i64 0) (.int .i64 0) (.int .i64 0) (.slice none 0 0)
      have HBf := Lib.hid (below_st8 HB2.out (Nat.le_succ _) (.int .i64 0) (.int .i64 0) (.int .i64 0) (.int .i64 0) (.int .i64 0) (.int .i64 0) (.int .i64 0) (.slice none 0 0))
      have hN := Lib.hid (show readR ⟨z, d, sp, sl, an⟩ b = none by
        have : tot szR = 11 := rfl
        rw [readR, if_neg]
        rintro ⟨h, -⟩
        omega)
      clear hR2 hfew
      go_wp2
      refine bodyPost_ret (v := .tuple #[.agg #[.int .i64 0, .int .i64 0, .int .i64 0, .int .i64 0, .int .i64 0, .int .i64 0, .int .i64 0, .slice none 0 0], .int .i64 4]) (by simp [results, Try.results11, go_sem, hx]) rfl ?_
      exact ⟨.inr (.inl ⟨hE.out, hN.out, rfl⟩), HBf.out⟩
end Go.Proofs.Ytpknhpfbinplgaa
end

/-
rec.Txn.
-/
section
namespace Go.Proofs.Ytpknhpfbinplgaa
open Go.RowKit
attribute [local go_sem ↓] Go.wp_at_zero Go.wp_at_succ

theorem OwR.box {α : Type} [Rp α] {w w' : World} {M : Ms} {base g : Nat} {e : TypeId} {v : Value} {l : List α} (h : OwR w M base e v l) (hb : Below w.heap.size w w') (hg : w.heap.size ≤ g) : OwR w' (Ms.and M g) base e v l := by
  obtain ⟨xs, ho, he⟩ := h
  refine ⟨xs, (ho.kept (row := none) ⟨hb.os, hb.tape, hb.output, hb.size, fun k hk _ => hb.block k hk⟩ (by cases v.ownBlock <;> simp)), he.mono fun cs x _ => Rp.mono fun b hb' hm => ⟨fun h' => ?_, hb.block b hb'⟩⟩
  rcases h' with (h' | h') | h'
  · exact hm (.inl h')
  · omega
  · exact hm (.inr h')

/-- The first k images' records. -/
def imgR (seq epoch of_ : Int) (k : Nat) (l : List Img) : List Rc := ((l.take k).zipIdx).map fun p => ⟨1, seq, epoch, (p.2 : Nat), of_, p.1⟩
theorem imgR_step (seq epoch of_ : Int) {k : Nat} {l : List Img} (hk : k < l.length) : imgR seq epoch of_ (k + 1) l = imgR seq epoch of_ k l ++ [⟨1, seq, epoch, (k : Nat), of_, l[k]⟩] := by
  unfold imgR
  rw [List.take_add_one, List.getElem?_eq_getElem hk, List.zipIdx_append, List.map_append]
  simp [Nat.min_eq_left (Nat.le_of_lt hk)]
theorem imgR_len (seq epoch of_ : Int) (k : Nat) (l : List Img) : (imgR seq epoch of_ k l).length = min k l.length := by
  unfold imgR; simp
/-- A transaction's records. -/
def recsOf (seq epoch : Int) (l : List Img) : List Rc := imgR seq epoch (l.length + 1) l.length l ++ [⟨2, seq, epoch, l.length, l.length + 1, noImg⟩]
def txnE (g : Geo) (seq epoch : Int) (l : List Img) : Int :=
  if (okG g && (inB seq 0 4294967295 && inB epoch 0 4294967295)) = false then 1
  else if l.all (imgOk g) = false then 1
  else if inB l.length 1 29 = false then 2 else 0
def TxnP (w' : World) (base : Nat) (g : Geo) (seq epoch : Int) (l : List Img) (e : Ending) : Prop :=
  (txnE g seq epoch l = 0 ∧ ∃ v, e = .returned (.tuple #[v, .int .i64 0]) ∧ OwR w' noM base 28 v (recsOf seq epoch l)) ∨
  (txnE g seq epoch l ≠ 0 ∧ e = .returned (.tuple #[.slice none 0 0, .int .i64 (txnE g seq epoch l)]))

set_option maxRecDepth 100000 in
set_option maxHeartbeats 16000000 in
theorem txn_any (g : Geo) (seq epoch : Int) (v : Value) (l : List Img) (w : World) (Mi : Ms) (h : SlR w Mi v l) (hl : l.length ≤ 100000) (hb : ∀ x ∈ l, x.bytes.length ≤ 100000) :
    Calls Try.prog 16 #[gv g, .int .i64 seq, .int .i64 epoch, v] w fun e w' => TxnP w' w.heap.size g seq epoch l e ∧ Below w.heap.size w w' := by
  obtain ⟨z, d, sp, sl, an⟩ := g
  obtain ⟨a, c, rfl⟩ := h.form
  have hb1 := (Below.refl w.heap.size w).alloc (Nat.le_refl _) (.cells #[.int .i64 z, .int .i64 d, .int .i64 sp, .int .i64 sl, .int .i64 an] 23)
  have HB := Lib.hid hb1
  have HG := Lib.hid (Blk.new w 23 #[.int .i64 z, .int .i64 d, .int .i64 sp, .int .i64 sl, .int .i64 an])
  have H := Lib.hid h.bare
  have HL := Lib.hid hb
  have hgc := Lib.hid (gcheck_any ⟨z, d, sp, sl, an⟩ (w.alloc (.cells #[.int .i64 z, .int .i64 d, .int .i64 sp, .int .i64 sl, .int .i64 an] 23)))
  have hin1 := fun w => rin_any seq 0 4294967295 w
  have hin2 := fun w => rin_any epoch 0 4294967295 w
  unfold gv errV at hgc
  unfold gv
  simp only at hgc ⊢
  clear hb1 h hb
  cases hok : (okG ⟨z, d, sp, sl, an⟩ && (inB seq 0 4294967295 && inB epoch 0 4294967295)) with
  | false =>
    have hE := Lib.hid (show txnE ⟨z, d, sp, sl, an⟩ seq epoch l = 1 by rw [txnE, if_pos hok])
    have HO := Lib.hid hok
    clear hok
    obtain ⟨bg, hbg⟩ : ∃ bg, bg = okG ⟨z, d, sp, sl, an⟩ := ⟨_, rfl⟩
    obtain ⟨b1, hb1⟩ : ∃ b1, b1 = inB seq 0 4294967295 := ⟨_, rfl⟩
    obtain ⟨b2, hb2⟩ : ∃ b2, b2 = inB epoch 0 4294967295 := ⟨_, rfl⟩
    rw [← hbg] at hgc HO
    rw [← hb1] at hin1 HO
    rw [← hb2] at hin2 HO
    clear hbg hb1 hb2
    go_enter Try.func16, Try.ntmps16
    cases bg with
    | false =>
      go_wp2_with (go_at_call 33; go_must (with_reducible refine hgc.out.mono ?_); rintro e w1 ⟨rfl, hB1⟩)
      go_ret2
      refine ⟨.inr ⟨by rw [hE.out]; decide, by rw [hE.out]; rfl⟩, HB.out.trans (hB1.mono HB.out.size)⟩
    | true =>
      cases b1 with
      | false =>
        go_wp2_with (first | (go_at_call 33; go_must (with_reducible refine hgc.out.mono ?_); rintro e w1 ⟨rfl, hB1⟩) | (go_at_call 41; go_must (with_reducible refine (hin1 _).mono ?_); rintro e w1 ⟨rfl, rfl⟩))
        go_ret2
        refine ⟨.inr ⟨by rw [hE.out]; decide, by rw [hE.out]; rfl⟩, HB.out.trans (hB1.mono HB.out.size)⟩
      | true =>
        obtain rfl : b2 = false := by have := HO.out; simpa using this
        go_wp2_with (first | (go_at_call 33; go_must (with_reducible refine hgc.out.mono ?_); rintro e w1 ⟨rfl, hB1⟩) | (go_at_call 41; go_must (first | (with_reducible refine (hin1 _).mono ?_) | (with_reducible refine (hin2 _).mono ?_)); rintro e w1 ⟨rfl, rfl⟩))
        go_ret2
        refine ⟨.inr ⟨by rw [hE.out]; decide, by rw [hE.out]; rfl⟩, HB.out.trans (hB1.mono HB.out.size)⟩
  | true =>
    have hE1 := Lib.hid (show txnE ⟨z, d, sp, sl, an⟩ seq epoch l = if l.all (imgOk ⟨z, d, sp, sl, an⟩) = false then 1 else if inB l.length 1 29 = false then 2 else 0 by rw [txnE, if_neg (by rw [hok]; simp)])
    simp only [Bool.and_eq_true] at hok
    rw [hok.1] at hgc
    rw [hok.2.1] at hin1
    rw [hok.2.2] at hin2
    clear hok
    go_enter Try.func16, Try.ntmps16
    go_wp2_with fail
    ((with_reducible refine hgc.out.mono ?_); rintro e w1 ⟨rfl, hB1⟩)
    have HB1 := Lib.hid (HB.out.trans (hB1.mono HB.out.size))
    have HG1 := Lib.hid (HG.out.below hB1)
    clear hB1 hgc HB HG
    go_wp2_with (go_at_call 41; go_must (first | (with_reducible refine (hin1 _).mono ?_) | (with_reducible refine (hin2 _).mono ?_)); rintro e w1 ⟨rfl, rfl⟩)
    go_loopg [31] l.length (fun g s31 wr => ∃ k : Nat, s31 = .int .i64 k ∧ k ≤ l.length ∧ l.length - k ≤ g ∧ Hid (Below w.heap.size w wr ∧ Blk wr w.heap.size 23 #[.int .i64 z, .int .i64 d, .int .i64 sp, .int .i64 sl, .int .i64 an]) ∧ Hid (∀ x ∈ l.take k, imgOk ⟨z, d, sp, sl, an⟩ x = true))
    case atStart => exact ⟨0, rfl, Nat.zero_le _, by omega, Lib.hid ⟨HB1.out, HG1.out⟩, Lib.hid (by simp)⟩
    case round =>
      obtain ⟨k, rfl, hkl, hg, hI, hA⟩ := hrel
      obtain ⟨w0, rfl⟩ : ∃ w0, w0 = wr := ⟨_, rfl⟩
      by_cases hlt : k < l.length
      · obtain ⟨b1, o1, A1, C1, rfl, -, x1, x2, x3, x4⟩ := img_at (H.out.mono (Keep.below hI.out.1)) hlt
        have hlt' : (k : Int) < l.length := by omega
        have hbA := (Below.refl w0.heap.size w0).alloc (Nat.le_refl _) (.cells #[.int .i64 l[k].zone, .int .i64 l[k].what, .slice A1 l[k].bytes.length C1] 26)
        have him := Lib.hid (image_any ⟨z, d, sp, sl, an⟩ l[k] _ _ noM (x4.mono (Keep.below hbA)) (HL.out _ (List.getElem_mem hlt)))
        unfold gv errV at him
        simp only at him
        obtain ⟨g1, g2, g3⟩ := hI.out.2.all
        have HBA := Lib.hid hbA
        clear x4 hbA
        cases hq : imgOk ⟨z, d, sp, sl, an⟩ l[k] with
        | false =>
          have hE := Lib.hid (show txnE ⟨z, d, sp, sl, an⟩ seq epoch l = 1 by
            rw [hE1.out, if_pos]
            rw [List.all_eq_false]
            exact ⟨l[k], List.getElem_mem hlt, by rw [hq]; simp⟩)
          rw [hq] at him
          clear hq
          go_wp2_with fail
          clear g1 g2 g3
          ((with_reducible refine him.out.mono ?_); rintro e w2 ⟨rfl, hB2⟩)
          have HB2 := Lib.hid (hI.out.1.trans ((HBA.out.trans (hB2.mono HBA.out.size)).mono hI.out.1.size))
          clear hB2
          go_wp2
          go_ret2
          exact ⟨.inr ⟨by rw [hE.out]; decide, by rw [hE.out]; rfl⟩, HB2.out⟩
        | true =>
          have hA2 := Lib.hid (show ∀ x ∈ l.take (k + 1), imgOk ⟨z, d, sp, sl, an⟩ x = true by
            intro x hx
            rw [List.take_add_one, List.getElem?_eq_getElem hlt, List.mem_append] at hx
            rcases hx with hx | hx
            · exact hA.out x hx
            · simp at hx; rw [hx]; exact hq)
          rw [hq] at him
          clear hq
          go_wp2_with fail
          clear g1 g2 g3
          ((with_reducible refine him.out.mono ?_); rintro e w2 ⟨rfl, hB2⟩)
          have hb02 := HBA.out.trans (hB2.mono HBA.out.size)
          have HI2 := Lib.hid (And.intro (hI.out.1.trans (hb02.mono hI.out.1.size)) (hI.out.2.below hb02))
          clear hB2 hb02
          go_wp2
          go_roundg (l.length - (k + 1))
          case measure => omega
          case rel => exact ⟨k + 1, by go_num, by omega, by omega, HI2, hA2⟩
      · obtain rfl : k = l.length := by omega
        have hE2 := Lib.hid (show txnE ⟨z, d, sp, sl, an⟩ seq epoch l = if inB l.length 1 29 = false then 2 else 0 by
          rw [hE1.out, if_neg]
          rw [Bool.not_eq_false, List.all_eq_true]
          have := hA.out
          rwa [List.take_length] at this)
        have HB2 := Lib.hid hI.out.1
        have hin3 := fun w => rin_any (l.length : Int) 1 29 w
        clear hA hI
        cases hq : inB (l.length : Int) 1 29 with
        | false =>
          have hE := Lib.hid (show txnE ⟨z, d, sp, sl, an⟩ seq epoch l = 2 by rw [hE2.out, if_pos hq])
          rw [hq] at hin3
          clear hq hE2
          go_wp2_with (go_at_call 41; go_must (with_reducible refine (hin3 _).mono ?_); rintro e w1 ⟨rfl, rfl⟩)
          go_ret2
          exact ⟨.inr ⟨by rw [hE.out]; decide, by rw [hE.out]; rfl⟩, HB2.out⟩
        | true =>
          have hE := Lib.hid (show txnE ⟨z, d, sp, sl, an⟩ seq epoch l = 0 by rw [hE2.out, if_neg (by rw [hq]; simp)])
          obtain ⟨hq1, hq2⟩ := inB_iff.1 hq
          rw [hq] at hin3
          have hwl : IntKind.i64.wrap ((l.length : Int) + 1) = l.length + 1 := by rw [IntKind.wrap_i64]; omega
          clear hq hE2
          go_wp2_with (go_at_call 41; go_must (with_reducible refine (hin3 _).mono ?_); rintro e w1 ⟨rfl, rfl⟩)
          go_loopg [12, 49] l.length (fun g s12 s49 wr => ∃ k : Nat, s49 = .int .i64 k ∧ k ≤ l.length ∧ l.length - k ≤ g ∧ Hid (OwR wr noM w.heap.size 28 s12 (imgR seq epoch (l.length + 1) k l) ∧ Below w.heap.size w wr))
          case atStart => exact ⟨0, rfl, Nat.zero_le _, by omega, Lib.hid ⟨OwR.nil _ _ _ _, HB2.out⟩⟩
          case round =>
            obtain ⟨k, rfl, hkl, hg, hI⟩ := hrel
            obtain ⟨w0, rfl⟩ : ∃ w0, w0 = wr := ⟨_, rfl⟩
            by_cases hlt : k < l.length
            · obtain ⟨b1, o1, A1, C1, rfl, -, x1, x2, x3, x4⟩ := img_at (H.out.mono (Keep.below hI.out.2)) hlt
              have hlt' : (k : Int) < l.length := by omega
              have hbA := (Below.refl w0.heap.size w0).alloc (Nat.le_refl _) (.cells #[.int .i64 l[k].zone, .int .i64 l[k].what, .slice A1 l[k].bytes.length C1] 26)
              have hcl := Lib.hid (bclone_any _ l[k].bytes _ noM noM (x4.mono (Keep.below hbA)) (by have := HL.out _ (List.getElem_mem hlt); omega))
              have HQA := Lib.hid (Blk.new w0 26 #[.int .i64 l[k].zone, .int .i64 l[k].what, .slice A1 l[k].bytes.length C1])
              have HBA := Lib.hid hbA
              have hst := Lib.hid (imgR_step seq epoch (l.length + 1) hlt)
              have hln := Lib.hid (imgR_len seq epoch (l.length + 1) k l)
              clear x4 hbA
              go_wp2_with fail
              ((with_reducible refine hcl.out.mono ?_); rintro e w2 ⟨r, rfl, hor, hB2⟩)
              obtain ⟨Ar, Cr, rfl⟩ := hor.form
              have hQ2 := HQA.out.below hB2
              obtain ⟨q1, q2, q3⟩ := hQ2.all
              have hb02 := HBA.out.trans (hB2.mono HBA.out.size)
              have hrq : (Value.slice Ar l[k].bytes.length Cr).ownBlock ≠ some w0.heap.size := fun e => by have := hor.own_ge e; simp at this; omega
              have hb3 := (hb02.setCell (p := ⟨w0.heap.size, 2, none⟩) (Nat.le_refl _) (.slice Ar l[k].bytes.length Cr))
              have hb4 := hb3.alloc (by simp; omega) (.cells #[.int .i64 1, .int .i64 seq, .int .i64 epoch, .int .i64 k, .int .i64 (l.length + 1), .int .i64 l[k].zone, .int .i64 l[k].what, .slice Ar l[k].bytes.length Cr] 28)
              have hor3 := (hor.setP plU (p := ⟨w0.heap.size, 2, none⟩) hrq (.slice Ar l[k].bytes.length Cr)).alloc (.cells #[.int .i64 1, .int .i64 seq, .int .i64 epoch, .int .i64 k, .int .i64 (l.length + 1), .int .i64 l[k].zone, .int .i64 l[k].what, .slice Ar l[k].bytes.length Cr] 28)
              have O3 := Lib.hid ((((hI.out.1.box hb02 (Nat.le_refl _)).setCell (p := ⟨w0.heap.size, 2, none⟩) (fun e => by have := hI.out.1.own_lt e; simp at this) (.inr rfl) (.slice Ar l[k].bytes.length Cr)).alloc (.cells #[.int .i64 1, .int .i64 seq, .int .i64 epoch, .int .i64 k, .int .i64 (l.length + 1), .int .i64 l[k].zone, .int .i64 l[k].what, .slice Ar l[k].bytes.length Cr] 28)).less (M' := noM) (fun b h => h.elim))
              have HB3 := Lib.hid (hI.out.2.trans (hb4.mono hI.out.2.size))
              have hlk : (imgR seq epoch (l.length + 1) k l).length + 1 ≤ 1000000000 := by rw [hln.out]; omega
              have hown : ∀ b, u12.ownBlock = some b → b < w0.heap.size := fun b e => hI.out.1.own_lt e
              have hS3 := Lib.hid (show SlR ((w2.setCell ⟨w0.heap.size, 2, none⟩ (.slice Ar l[k].bytes.length Cr)).alloc (.cells #[.int .i64 1, .int .i64 seq, .int .i64 epoch, .int .i64 k, .int .i64 (l.length + 1), .int .i64 l[k].zone, .int .i64 l[k].what, .slice Ar l[k].bytes.length Cr] 28)) (fun b => noM b ∨ u12.ownBlock = some b) (.slice (some ⟨w2.heap.size, 0, none⟩) 1 1) [(⟨1, seq, epoch, k, l.length + 1, l[k]⟩ : Rc)] from by
                have hbl := Blk.new (w2.setCell ⟨w0.heap.size, 2, none⟩ (.slice Ar l[k].bytes.length Cr)) 28 #[.int .i64 1, .int .i64 seq, .int .i64 epoch, .int .i64 k, .int .i64 (l.length + 1), .int .i64 l[k].zone, .int .i64 l[k].what, .slice Ar l[k].bytes.length Cr]
                have := SlR.one (M := fun b => noM b ∨ u12.ownBlock = some b) (x := (⟨1, seq, epoch, k, l.length + 1, l[k]⟩ : Rc)) hbl ⟨_, rfl, (OwR.pl plU hor3).sl' (fun b hb hm => hm.elim (fun h => h) (fun h => by have a1 := hown b h; have a2 := hor3.own_ge hb; simp at a2; omega))⟩ (fun hm => hm.elim (fun h => h) (fun h => by have a1 := hown _ h; simp at a1; omega))
                simpa using this)
              clear hb02 hor hcl hrq hb3 hb4 hor3 hown hQ2 hB2
              go_wp2_with (at_builtin; go_must (refine wpList_append_R (α := Rc) (M := noM) (base := w.heap.size) (l := imgR seq epoch (l.length + 1) k l) (m := [(⟨1, seq, epoch, k, l.length + 1, l[k]⟩ : Rc)]) rfl (by rfl) tyR (by rfl) O3.out (by rfl) hS3.out (by simpa using hlk) HB3.out.size ?_); intro v4 w4 ho4 hg4 hat4)
              rw [← hst.out] at ho4
              have HX := Lib.hid (And.intro ho4 (HB3.out.grown hg4 HB3.out.size (fun b e => O3.out.own_ge e)))
              clear ho4 hg4 hat4
              go_roundg (l.length - (k + 1))
              case measure => omega
              case rel => exact ⟨k + 1, by go_num, by omega, by omega, HX⟩
            · obtain rfl : k = l.length := by omega
              have hw1 : IntKind.i64.wrap ((l.length : Int) + 1 - 1) = l.length := by rw [IntKind.wrap_i64]; omega
              have hbA := (Below.refl w0.heap.size w0).alloc (Nat.le_refl _) (.cells #[.int .i64 2, .int .i64 seq, .int .i64 epoch, .int .i64 l.length, .int .i64 (l.length + 1), .int .i64 0, .int .i64 0, .slice none 0 0] 28)
              have O3 := Lib.hid (hI.out.1.below hbA)
              have HB3 := Lib.hid (hI.out.2.trans (hbA.mono hI.out.2.size))
              have hlk : (imgR seq epoch (l.length + 1) l.length l).length + 1 ≤ 1000000000 := by rw [imgR_len]; omega
              have hown : ∀ b, u12.ownBlock = some b → b < w0.heap.size := fun b e => hI.out.1.own_lt e
              have hS3 := Lib.hid (show SlR (w0.alloc (.cells #[.int .i64 2, .int .i64 seq, .int .i64 epoch, .int .i64 l.length, .int .i64 (l.length + 1), .int .i64 0, .int .i64 0, .slice none 0 0] 28)) (fun b => noM b ∨ u12.ownBlock = some b) (.slice (some ⟨w0.heap.size, 0, none⟩) 1 1) [(⟨2, seq, epoch, l.length, l.length + 1, noImg⟩ : Rc)] from
                SlR.one (M := fun b => noM b ∨ u12.ownBlock = some b) (x := (⟨2, seq, epoch, l.length, l.length + 1, noImg⟩ : Rc)) (Blk.new w0 28 #[.int .i64 2, .int .i64 seq, .int .i64 epoch, .int .i64 l.length, .int .i64 (l.length + 1), .int .i64 0, .int .i64 0, .slice none 0 0]) ⟨_, rfl, sl_nil _ _ _ (by simp [maxLen])⟩ (fun hm => hm.elim (fun h => h) (fun h => by have a1 := hown _ h; omega)))
              clear hbA hown hI
              go_wp2_with (at_builtin; go_must (refine wpList_append_R (α := Rc) (M := noM) (base := w.heap.size) (l := imgR seq epoch (l.length + 1) l.length l) (m := [(⟨2, seq, epoch, l.length, l.length + 1, noImg⟩ : Rc)]) rfl (by rfl) tyR (by rfl) O3.out (by rfl) hS3.out (by simpa using hlk) HB3.out.size ?_); intro v4 w4 ho4 hg4 hat4)
              have HX := Lib.hid (And.intro ho4 (HB3.out.grown hg4 HB3.out.size (fun b e => O3.out.own_ge e)))
              clear ho4 hg4 hat4
              go_wp2
              go_ret2
              exact ⟨.inl ⟨hE.out, _, rfl, HX.out.1⟩, HX.out.2⟩
end Go.Proofs.Ytpknhpfbinplgaa
end

/-
Plain laws on records as bytes: what is written is read; no other length is.
-/
section
namespace Go.Proofs.Ytpknhpfbinplgaa

theorem recB_len {g : Geo} {r : Rc} (h : okR g r = true) : (recB r).length = if r.kind = 1 then 14 + r.img.bytes.length else 11 := by
  unfold recB
  rw [List.length_append, rowR_len]
  split
  · rw [imgB_len]; omega
  · rfl
theorem recB_short {g : Geo} {r : Rc} (h : okR g r = true) : 11 ≤ (recB r).length ∧ (recB r).length ≤ 59 := by
  rw [recB_len h]
  split
  · rename_i hk
    rcases (okR_parts h).2 with h' | h' | h'
    · omega
    · have := img_short h'.2.2.2.2.2
      omega
    · omega
  · omega
theorem nums_recB {g : Geo} {r : Rc} (h : okR g r = true) (t : List UInt8) : nums szR (recB r ++ t) = numsOf r := by
  unfold recB
  rw [List.append_assoc]
  exact nums_rowB _ _ _ rfl (fun k a b => rec_fits h k a b)
theorem drop_recB (r : Rc) : (recB r).drop 11 = if r.kind = 1 then imgB r.img else [] := by
  unfold recB
  rw [List.drop_append, rowR_len, List.drop_eq_nil_of_le (by rw [rowR_len]; exact Nat.le_refl _)]
  simp
theorem whatN_whatB {g : Geo} {x : Img} (h : imgOk g x = true) : whatN (whatB x.what) = x.what := by
  obtain ⟨h1, -, h3⟩ := imgOk_parts h
  obtain ⟨-, hd, -⟩ := okG_iff.1 h1
  unfold whatN whatB
  split
  · split at * <;> omega
  · split at * <;> omega
theorem imgB_drop2 (x : Img) : (imgB x).drop 2 = UInt8.ofNat x.bytes.length :: x.bytes := by
  unfold imgB
  have hl : (rowB [x.zone, whatB x.what] [1, 1]).length = 2 := by rw [tot_rowB [x.zone, whatB x.what] [1, 1] rfl]; rfl
  rw [List.drop_append, hl, List.drop_eq_nil_of_le (by rw [hl]; exact Nat.le_refl _)]
  rfl
theorem imgOf_imgB {g : Geo} {x : Img} (h : imgOk g x = true) : imgOf (imgB x) = x := by
  have h1 : nums [1, 1] (imgB x) = [x.zone, whatB x.what] := by
    unfold imgB
    exact nums_rowB [x.zone, whatB x.what] [1, 1] _ rfl (fun k a b => img_fits h k a b)
  have hs := img_short h
  have hp : partN (UInt8.ofNat x.bytes.length :: x.bytes) = x.bytes.length := by
    simp only [partN, List.headD_cons]
    simp
    omega
  unfold imgOf
  rw [h1, imgB_drop2, hp]
  simp [whatN_whatB h]
theorem shown_imgB {g : Geo} {x : Img} (h : imgOk g x = true) : shownOk (imgB x) = true := by
  have hs := img_short h
  have hp : partN (UInt8.ofNat x.bytes.length :: x.bytes) = x.bytes.length := by
    simp only [partN, List.headD_cons]
    simp
    omega
  have hl := imgB_len x
  simp only [shownOk, partOk, imgB_drop2, hp, List.length_cons, Bool.and_eq_true, decide_eq_true_eq]
  omega
theorem parse_recB {g : Geo} {r : Rc} (h : okR g r = true) : parseR (recB r) = r := by
  have hn := nums_recB h []
  rw [List.append_nil] at hn
  unfold parseR
  rw [hn, drop_recB]
  obtain ⟨kind, seq, epoch, at_, of_, ⟨zone, what, bytes⟩⟩ := r
  simp only [numsOf]
  rcases (okR_parts h).2 with h' | h' | h'
  · simp only at h'
    obtain ⟨rfl, rfl, rfl, rfl, rfl, rfl, rfl, rfl⟩ := h'
    simp [noImg]
  · simp only at h'
    obtain ⟨rfl, -, -, -, -, hi⟩ := h'
    simp [imgOf_imgB hi]
  · simp only at h'
    obtain ⟨rfl, -, -, -, rfl, rfl, rfl, rfl⟩ := h'
    simp [noImg]
/-- What is written is read. -/
theorem readR_recB {g : Geo} {r : Rc} (h : okR g r = true) : readR g (recB r) = some r := by
  unfold readR
  rw [parse_recB h, if_pos]
  refine ⟨(recB_short h).1, fun hk => ?_, h, rfl⟩
  rw [drop_recB, if_pos hk]
  rcases (okR_parts h).2 with h' | h' | h'
  · omega
  · exact shown_imgB h'.2.2.2.2.2
  · omega
theorem readR_some {g : Geo} {b : List UInt8} {r : Rc} (h : readR g b = some r) : okR g r = true ∧ recB r = b := by
  unfold readR at h
  split at h
  · rename_i h'
    cases h
    exact h'.2.2
  · cases h
theorem recB_inj {g : Geo} {r q : Rc} (hr : okR g r = true) (hq : okR g q = true) : recB r = recB q ↔ r = q := by
  refine ⟨fun e => ?_, fun e => by rw [e]⟩
  have h1 := readR_recB hr
  rw [e, readR_recB hq] at h1
  exact (Option.some.inj h1).symm
/-- How long bytes say that they are. -/
def recLen (b : List UInt8) : Nat := if b.getD 0 0 = 1 then 14 + (b.getD 13 0).toNat else 11
theorem recLen_recB {g : Geo} {r : Rc} (h : okR g r = true) (t : List UInt8) : recLen (recB r ++ t) = (recB r).length := by
  have hfit := rec_fits h 0 (by simp [numsOf]) (by simp)
  simp only [numsOf, List.getElem_cons_zero] at hfit
  have e1 : limS 1 = 256 := rfl
  rw [recB_len h]
  have h0 : (recB r ++ t).getD 0 0 = UInt8.ofNat (r.kind.toNat % 256) := by
    unfold recB numsOf
    simp [rowB, leB]
  have hk : (recB r ++ t).getD 0 0 = 1 ↔ r.kind = 1 := by
    rw [h0]
    rcases (okR_parts h).2 with h' | h' | h' <;> rw [h'.1] <;> decide
  unfold recLen
  by_cases hk1 : r.kind = 1
  · rw [if_pos (hk.2 hk1), if_pos hk1]
    rcases (okR_parts h).2 with h' | h' | h'
    · omega
    · have hs := img_short h'.2.2.2.2.2
      have h13 : (recB r ++ t).getD 13 0 = UInt8.ofNat r.img.bytes.length := by
        have hd : (recB r ++ t).drop 13 = UInt8.ofNat r.img.bytes.length :: (r.img.bytes ++ t) := by
          have : (recB r ++ t).drop 13 = ((recB r).drop 13) ++ t := by
            rw [List.drop_append_of_le_length]
            rw [recB_len h, if_pos hk1]
            omega
          rw [this, show (13 : Nat) = 11 + 2 from rfl, ← List.drop_drop, drop_recB, if_pos hk1, imgB_drop2]
          rfl
        have := congrArg (fun l : List UInt8 => l.getD 0 0) hd
        simpa [List.getD_eq_getElem?_getD, List.getElem?_drop] using this
      rw [h13]
      simp
      omega
    · omega
  · rw [if_neg (fun h' => hk1 (hk.1 h')), if_neg hk1]
/-- Cut short, they are none. -/
theorem readR_cut {g : Geo} {r : Rc} (h : okR g r = true) {n : Nat} (hn : n < (recB r).length) : readR g ((recB r).take n) = none := by
  cases hq : readR g ((recB r).take n) with
  | none => rfl
  | some q =>
    obtain ⟨h1, h2⟩ := readR_some hq
    have h3 := recLen_recB h1 ((recB r).drop n)
    rw [h2, List.take_append_drop] at h3
    have h4 := recLen_recB h []
    rw [List.append_nil] at h4
    rw [h4, List.length_take] at h3
    omega
/-- With a byte more they are none. -/
theorem readR_more {g : Geo} {r : Rc} (h : okR g r = true) (x : UInt8) : readR g (recB r ++ [x]) = none := by
  cases hq : readR g (recB r ++ [x]) with
  | none => rfl
  | some q =>
    obtain ⟨h1, h2⟩ := readR_some hq
    have h3 := recLen_recB h1 []
    rw [List.append_nil, h2, recLen_recB h [x], List.length_append] at h3
    simp at h3
end Go.Proofs.Ytpknhpfbinplgaa
end

/-
casematekeep.Bytes, Image, Rec; casematelaw07.Some.
-/
section
namespace Go.Proofs.Ytpknhpfbinplgaa
open Go.RowKit
attribute [local go_sem ↓] Go.wp_at_zero Go.wp_at_succ

theorem take_ext {α : Type} {a b : List α} {k : Nat} (h : a.take k = b.take k) (ha : k < a.length) (hb : k < b.length) (he : a[k] = b[k]) : a.take (k + 1) = b.take (k + 1) := by
  rw [List.take_add_one, List.take_add_one, h, List.getElem?_eq_getElem ha, List.getElem?_eq_getElem hb, he]

set_option maxHeartbeats 1000000 in
theorem bytes_any (v1 v2 : Value) (l1 l2 : List UInt8) (w : World) (M1 M2 : Ms) (h1 : SlR w M1 v1 l1) (h2 : SlR w M2 v2 l2) (hl : l1.length ≤ 1000000000) :
    Calls Try.prog 13 #[v1, v2] w fun e w' => e = .returned (.bool (decide (l1 = l2))) ∧ Below w.heap.size w w' := by
  obtain ⟨a1, c1, rfl⟩ := h1.form
  obtain ⟨a2, c2, rfl⟩ := h2.form
  by_cases hlen : l1.length = l2.length
  case neg =>
    have hne : ¬ (l1.length : Int) = l2.length := by omega
    have hR := Lib.hid (show decide (l1 = l2) = false by simp only [decide_eq_false_iff_not]; intro e; exact hlen (by rw [e]))
    have hne' : ((l1.length : Int) != l2.length) = true := by simpa using hne
    clear h1 h2 hlen hne
    go_enter Try.func13, Try.ntmps13
    go_wp2
    go_ret
    rw [hR.out]
    exact ⟨rfl, Below.refl _ _⟩
  have H1 := Lib.hid h1
  have H2 := Lib.hid h2
  have hlen' : ((l1.length : Int) != l2.length) = false := by simp [hlen]
  have Hlen := Lib.hid hlen
  clear h1 h2 hlen
  go_enter Try.func13, Try.ntmps13
  go_wp2
  clear hlen'
  go_loopw [5] (fun i wr => ∃ k : Nat, k ≤ l1.length ∧ i = .int .i64 k ∧ Below w.heap.size w wr ∧ Hid (l1.take k = l2.take k)) (fun i _ => l1.length - (intOf i).toNat)
  case atStart => exact ⟨0, Nat.zero_le _, rfl, Below.refl _ _, by simp [Hid]⟩
  case round =>
    obtain ⟨k, hk, rfl, hB, heq⟩ := hrel
    by_cases hlt : k < l1.length
    · have hlt2 : k < l2.length := by rw [← Hlen.out]; exact hlt
      obtain ⟨b1, o1, rfl, -, x1⟩ := u8_at (H1.out.mono (Keep.below hB)) hlt
      obtain ⟨b2, o2, rfl, -, x2⟩ := u8_at (H2.out.mono (Keep.below hB)) hlt2
      go_wp2_with fail
      refine rg_enter [0, 1, 2, 3, 4, 5, 6, 7, 8] (fun w' => w'.cell? ⟨b1, o1 + k, none⟩ = some (.int .u8 l1[k].toNat) ∧ w'.cell? ⟨b2, o2 + k, none⟩ = some (.int .u8 l2[k].toNat)) (by kernel_rfl) ?_
      have hS := Lib.hid (show wr.drew.cell? ⟨b1, o1 + k, none⟩ = some (.int .u8 l1[k].toNat) ∧ wr.drew.cell? ⟨b2, o2 + k, none⟩ = some (.int .u8 l2[k].toNat) from ⟨x1, x2⟩)
      clear x1 x2
      apply rg_take 0 rfl (by kernel_rfl) (fun _ _ _ h => h) (hS.out) rfl
      · (rintro W ⟨s0, s1⟩; go_simp; try rfl)
      · (go_simp; try rfl)
      apply rg_take 1 rfl (by kernel_rfl) (fun _ _ _ h => h) (hS.out) rfl
      · (rintro W ⟨s0, s1⟩; go_simp; try rfl)
      · (go_simp; try rfl)
      apply rg_take 2 rfl (by kernel_rfl) (fun _ _ _ h => h) (hS.out) rfl
      · (rintro W ⟨s0, s1⟩; go_simp; try rfl)
      · (go_simp; try rfl)
      apply rg_take 3 rfl (by kernel_rfl) (fun _ _ _ h => h) (hS.out) rfl
      · (rintro W ⟨s0, s1⟩; go_simp; try rfl)
      · (go_simp; try rfl)
      apply rg_take 4 rfl (by kernel_rfl) (fun _ _ _ h => h) (hS.out) rfl
      · (rintro W ⟨s0, s1⟩; go_simp; try rfl)
      · (go_simp; try rfl)
      apply rg_take 5 rfl (by kernel_rfl) (fun _ _ _ h => h) (hS.out) rfl
      · (rintro W ⟨s0, s1⟩; go_simp; try rfl)
      · (go_simp; try rfl)
      apply rg_take 6 rfl (by kernel_rfl) (fun _ _ _ h => h) (hS.out) rfl
      · (rintro W ⟨s0, s1⟩; go_simp; try rfl)
      · (go_simp; try rfl)
      apply rg_take 7 rfl (by kernel_rfl) (fun _ _ _ h => h) (hS.out) rfl
      · (rintro W ⟨s0, s1⟩; go_simp; try rfl)
      · (go_simp; try rfl)
      apply rg_take 8 rfl (by kernel_rfl) (fun _ _ _ h => h) (hS.out) rfl
      · (rintro W ⟨s0, s1⟩; go_simp; try rfl)
      · (go_simp; try rfl)
      refine rg_done (by kernel_rfl) ?_
      go_wp2
      · have hne : ¬ l1[k] = l2[k] := by
          intro e
          have h : ((l1[k].toNat : Int) != l2[k].toNat) = true := ‹_›
          rw [e] at h
          simp at h
        have hR := Lib.hid (show decide (l1 = l2) = false by simp only [decide_eq_false_iff_not]; intro e; subst e; exact hne rfl)
        go_ret
        rw [hR.out]
        exact ⟨rfl, hB.drew⟩
      · have he : l1[k] = l2[k] := by
          have h : ((l1[k].toNat : Int) != l2[k].toNat) = false := ‹_›
          simp only [bne_eq_false_iff_eq] at h
          exact UInt8.toNat_inj.1 (by omega)
        go_roundw
        case rel => exact ⟨k + 1, by omega, by go_num, hB.drew, Lib.hid (take_ext heq.out hlt hlt2 he)⟩
        case measure => simp [intOf]; omega
    · obtain rfl : k = l1.length := by omega
      have hR := Lib.hid (show decide (l1 = l2) = true by
        simp only [decide_eq_true_eq]
        have h := heq.out
        rw [List.take_length] at h
        rw [h, List.take_of_length_le (by rw [Hlen.out]; exact Nat.le_refl _)])
      go_wp2
      go_ret
      rw [hR.out]
      exact ⟨rfl, hB⟩

set_option maxHeartbeats 4000000 in
theorem kimage_any (x y : Img) (v1 v2 : Value) (w : World) (M1 M2 : Ms) (h1 : SlR w M1 v1 x.bytes) (h2 : SlR w M2 v2 y.bytes) (hl : x.bytes.length ≤ 1000000000) :
    Calls Try.prog 18 #[.agg #[.int .i64 x.zone, .int .i64 x.what, v1], .agg #[.int .i64 y.zone, .int .i64 y.what, v2]] w fun e w' => e = .returned (.bool (decide (x = y))) ∧ Below w.heap.size w w' := by
  obtain ⟨z1, n1, l1⟩ := x
  obtain ⟨z2, n2, l2⟩ := y
  simp only at h1 h2 hl ⊢
  obtain ⟨a1, c1, rfl⟩ := h1.form
  obtain ⟨a2, c2, rfl⟩ := h2.form
  have HB := Lib.hid (fun o1 o2 => ((Below.refl w.heap.size w).alloc (Nat.le_refl _) o1).alloc (by simp) o2)
  by_cases hz : z1 = z2
  · subst hz
    by_cases hn : n1 = n2
    · subst hn
      have hE := Lib.hid (show decide ((⟨z1, n1, l1⟩ : Img) = ⟨z1, n1, l2⟩) = decide (l1 = l2) by simp)
      have hby := Lib.hid (fun (w' : World) (hb : Below w.heap.size w w') => bytes_any _ _ l1 l2 w' _ _ (h1.mono (Keep.below hb)) (h2.mono (Keep.below hb)) hl)
      rw [hE.out]
      go_enter Try.func18, Try.ntmps18
      go_wp2_with (go_at_call 13; go_must (with_reducible refine (hby.out _ (HB.out _ _)).mono ?_); rintro e w1 ⟨rfl, hB1⟩)
      go_ret
      exact ⟨rfl, (HB.out _ _).trans (hB1.mono (HB.out _ _).size)⟩
    · have hE := Lib.hid (show decide ((⟨z1, n1, l1⟩ : Img) = ⟨z1, n2, l2⟩) = false by simp [hn])
      have hn' : (n1 == n2) = false := by simpa using hn
      rw [hE.out]
      clear hn
      go_enter Try.func18, Try.ntmps18
      go_wp2
      go_ret
      exact ⟨rfl, HB.out _ _⟩
  · have hE := Lib.hid (show decide ((⟨z1, n1, l1⟩ : Img) = ⟨z2, n2, l2⟩) = false by simp [hz])
    have hn' : (z1 == z2) = false := by simpa using hz
    rw [hE.out]
    clear hz
    go_enter Try.func18, Try.ntmps18
    go_wp2
    go_ret
    exact ⟨rfl, HB.out _ _⟩

set_option maxHeartbeats 8000000 in
theorem krec_any (x y : Rc) (v1 v2 : Value) (w : World) (M1 M2 : Ms) (h1 : SlR w M1 v1 x.img.bytes) (h2 : SlR w M2 v2 y.img.bytes) (hl : x.img.bytes.length ≤ 1000000000) :
    Calls Try.prog 12 #[rv x v1, rv y v2] w fun e w' => e = .returned (.bool (decide (x = y))) ∧ Below w.heap.size w w' := by
  obtain ⟨k1, s1, e1, a1, o1, ⟨z1, n1, l1⟩⟩ := x
  obtain ⟨k2, s2, e2, a2, o2, ⟨z2, n2, l2⟩⟩ := y
  unfold rv
  simp only at h1 h2 hl ⊢
  obtain ⟨p1, c1, rfl⟩ := h1.form
  obtain ⟨p2, c2, rfl⟩ := h2.form
  have HB := Lib.hid (fun o1 o2 => ((Below.refl w.heap.size w).alloc (Nat.le_refl _) o1).alloc (by simp) o2)
  by_cases hk : k1 = k2
  · subst hk
    by_cases hs : s1 = s2
    · subst hs
      by_cases he : e1 = e2
      · subst he
        by_cases ha : a1 = a2
        · subst ha
          by_cases ho : o1 = o2
          · subst ho
            have hE := Lib.hid (show decide ((⟨k1, s1, e1, a1, o1, ⟨z1, n1, l1⟩⟩ : Rc) = ⟨k1, s1, e1, a1, o1, ⟨z2, n2, l2⟩⟩) = decide ((⟨z1, n1, l1⟩ : Img) = ⟨z2, n2, l2⟩) by simp)
            have hby := Lib.hid (fun (w' : World) (hb : Below w.heap.size w w') => kimage_any ⟨z1, n1, l1⟩ ⟨z2, n2, l2⟩ _ _ w' _ _ (h1.mono (Keep.below hb)) (h2.mono (Keep.below hb)) hl)
            rw [hE.out]
            simp only at hby
            obtain ⟨bb, hbb⟩ : ∃ bb, bb = decide ((⟨z1, n1, l1⟩ : Img) = ⟨z2, n2, l2⟩) := ⟨_, rfl⟩
            rw [← hbb] at hby ⊢
            clear hbb hE
            go_enter Try.func12, Try.ntmps12
            go_wp2_with (go_at_call 18; go_must (with_reducible refine (hby.out _ (HB.out _ _)).mono ?_); rintro e w1 ⟨rfl, hB1⟩)
            go_ret
            exact ⟨rfl, (HB.out _ _).trans (hB1.mono (HB.out _ _).size)⟩
          · have hE := Lib.hid (show decide ((⟨k1, s1, e1, a1, o1, ⟨z1, n1, l1⟩⟩ : Rc) = ⟨k1, s1, e1, a1, o2, ⟨z2, n2, l2⟩⟩) = false by simp [ho])
            have hn' : (o1 == o2) = false := by simpa using ho
            rw [hE.out]
            clear ho
            go_enter Try.func12, Try.ntmps12
            go_wp2
            go_ret
            exact ⟨rfl, HB.out _ _⟩
        · have hE := Lib.hid (show decide ((⟨k1, s1, e1, a1, o1, ⟨z1, n1, l1⟩⟩ : Rc) = ⟨k1, s1, e1, a2, o2, ⟨z2, n2, l2⟩⟩) = false by simp [ha])
          have hn' : (a1 == a2) = false := by simpa using ha
          rw [hE.out]
          clear ha
          go_enter Try.func12, Try.ntmps12
          go_wp2
          go_ret
          exact ⟨rfl, HB.out _ _⟩
      · have hE := Lib.hid (show decide ((⟨k1, s1, e1, a1, o1, ⟨z1, n1, l1⟩⟩ : Rc) = ⟨k1, s1, e2, a2, o2, ⟨z2, n2, l2⟩⟩) = false by simp [he])
        have hn' : (e1 == e2) = false := by simpa using he
        rw [hE.out]
        clear he
        go_enter Try.func12, Try.ntmps12
        go_wp2
        go_ret
        exact ⟨rfl, HB.out _ _⟩
    · have hE := Lib.hid (show decide ((⟨k1, s1, e1, a1, o1, ⟨z1, n1, l1⟩⟩ : Rc) = ⟨k1, s2, e2, a2, o2, ⟨z2, n2, l2⟩⟩) = false by simp [hs])
      have hn' : (s1 == s2) = false := by simpa using hs
      rw [hE.out]
      clear hs
      go_enter Try.func12, Try.ntmps12
      go_wp2
      go_ret
      exact ⟨rfl, HB.out _ _⟩
  · have hE := Lib.hid (show decide ((⟨k1, s1, e1, a1, o1, ⟨z1, n1, l1⟩⟩ : Rc) = ⟨k2, s2, e2, a2, o2, ⟨z2, n2, l2⟩⟩) = false by simp [hk])
    have hn' : (k1 == k2) = false := by simpa using hk
    rw [hE.out]
    clear hk
    go_enter Try.func12, Try.ntmps12
    go_wp2
    go_ret
    exact ⟨rfl, HB.out _ _⟩

theorem some0_any (w : World) : Calls Try.prog 37 #[.int .i64 0, .int .i64 0, .int .i64 0, .int .i64 0, .int .i64 0] w fun e w' => e = .returned (gv ⟨1, 1, 0, 14, 1⟩) ∧ Below w.heap.size w w' := by
  have HB := Lib.hid (fun o => (Below.refl w.heap.size w).alloc (Nat.le_refl _) o)
  go_enter Try.func37, Try.ntmps37
  go_wp2
  refine bodyPost_ret (v := gv ⟨1, 1, 0, 14, 1⟩) (by simp [results, Try.results37, go_sem, gv]) rfl ?_
  exact ⟨rfl, HB.out _⟩
end Go.Proofs.Ytpknhpfbinplgaa
end
