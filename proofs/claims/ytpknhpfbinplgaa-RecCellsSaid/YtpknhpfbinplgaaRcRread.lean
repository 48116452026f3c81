/-
rec.Read.
-/
import Derived.Test.YtpknhpfbinplgaaRcShown
namespace Go.Proofs.Ytpknhpfbinplgaa
open Go.RowKit
attribute [local go_sem ↓] Go.wp_at_zero Go.wp_at_succ

def noImg : Img := ⟨0, 0, []⟩
/-- The record that bytes would be. -/
def parseR (b : List UInt8) : Rc := ⟨(nums szR b).getD 0 0, (nums szR b).getD 1 0, (nums szR b).getD 2 0, (nums szR b).getD 3 0, (nums szR b).getD 4 0, if (nums szR b).getD 0 0 = 1 then imgOf (b.drop 11) else noImg⟩
def readR (g : Geo) (b : List UInt8) : Option Rc :=
  if 11 ≤ b.length ∧ ((parseR b).kind = 1 → shownOk (b.drop 11) = true) ∧ okR g (parseR b) = true ∧ recB (parseR b) = b then some (parseR b) else none
def zeroR : Value := .agg #[.int .i64 0, .int .i64 0, .int .i64 0, .int .i64 0, .int .i64 0, .int .i64 0, .int .i64 0, .slice none 0 0]
def RreadP (w' : World) (base : Nat) (g : Geo) (b : List UInt8) (e : Ending) : Prop :=
  (okG g = false ∧ e = .returned (.tuple #[zeroR, .int .i64 1])) ∨
  (okG g = true ∧ readR g b = none ∧ e = .returned (.tuple #[zeroR, .int .i64 4])) ∨
  (okG g = true ∧ ∃ v r, readR g b = some r ∧ e = .returned (.tuple #[rv r v, .int .i64 0]) ∧ OwR w' noM base 5 v r.img.bytes)
theorem st8_cells {w : World} {b : Nat} {t : TypeId} {a0 a1 a2 a3 a4 a5 a6 a7 : Value} (h : Blk w b t #[a0, a1, a2, a3, a4, a5, a6, a7]) (x0 x1 x2 x3 x4 x5 x6 x7 : Value) (i : Nat) :
    ((((((((w.setCell ⟨b, 0, none⟩ x0).setCell ⟨b, 1, none⟩ x1).setCell ⟨b, 2, none⟩ x2).setCell ⟨b, 3, none⟩ x3).setCell ⟨b, 4, none⟩ x4).setCell ⟨b, 5, none⟩ x5).setCell ⟨b, 6, none⟩ x6).setCell ⟨b, 7, none⟩ x7).cell? ⟨b, i, none⟩ = #[x0, x1, x2, x3, x4, x5, x6, x7][i]? :=
  have b0 : Blk (w.setCell ⟨b, 0, none⟩ x0) b t #[x0, a1, a2, a3, a4, a5, a6, a7] := h.set_ 0 x0
  have b1 : Blk _ b t #[x0, x1, a2, a3, a4, a5, a6, a7] := b0.set_ 1 x1
  have b2 : Blk _ b t #[x0, x1, x2, a3, a4, a5, a6, a7] := b1.set_ 2 x2
  have b3 : Blk _ b t #[x0, x1, x2, x3, a4, a5, a6, a7] := b2.set_ 3 x3
  have b4 : Blk _ b t #[x0, x1, x2, x3, x4, a5, a6, a7] := b3.set_ 4 x4
  have b5 : Blk _ b t #[x0, x1, x2, x3, x4, x5, a6, a7] := b4.set_ 5 x5
  have b6 : Blk _ b t #[x0, x1, x2, x3, x4, x5, x6, a7] := b5.set_ 6 x6
  have b7 : Blk _ b t #[x0, x1, x2, x3, x4, x5, x6, x7] := b6.set_ 7 x7
  b7.cell i
theorem below_st8 {w0 w : World} {n : Nat} (h : Below n w0 w) {b : Nat} (hb : n ≤ b) (x0 x1 x2 x3 x4 x5 x6 x7 : Value) :
    Below n w0 ((((((((w.setCell ⟨b, 0, none⟩ x0).setCell ⟨b, 1, none⟩ x1).setCell ⟨b, 2, none⟩ x2).setCell ⟨b, 3, none⟩ x3).setCell ⟨b, 4, none⟩ x4).setCell ⟨b, 5, none⟩ x5).setCell ⟨b, 6, none⟩ x6).setCell ⟨b, 7, none⟩ x7) :=
  (((((((h.setCell (p := ⟨b, 0, none⟩) hb x0).setCell (p := ⟨b, 1, none⟩) hb x1).setCell (p := ⟨b, 2, none⟩) hb x2).setCell (p := ⟨b, 3, none⟩) hb x3).setCell (p := ⟨b, 4, none⟩) hb x4).setCell (p := ⟨b, 5, none⟩) hb x5).setCell (p := ⟨b, 6, none⟩) hb x6).setCell (p := ⟨b, 7, none⟩) hb x7
theorem ow_st8 {w : World} {M : Ms} {base : Nat} {e : TypeId} {v : Value} {l : List UInt8} (h : OwR w M base e v l) {b : Nat} (hb : v.ownBlock ≠ some b) (x0 x1 x2 x3 x4 x5 x6 x7 : Value) :
    OwR ((((((((w.setCell ⟨b, 0, none⟩ x0).setCell ⟨b, 1, none⟩ x1).setCell ⟨b, 2, none⟩ x2).setCell ⟨b, 3, none⟩ x3).setCell ⟨b, 4, none⟩ x4).setCell ⟨b, 5, none⟩ x5).setCell ⟨b, 6, none⟩ x6).setCell ⟨b, 7, none⟩ x7) M base e v l :=
  (((((((h.setP plU (p := ⟨b, 0, none⟩) hb x0).setP plU (p := ⟨b, 1, none⟩) hb x1).setP plU (p := ⟨b, 2, none⟩) hb x2).setP plU (p := ⟨b, 3, none⟩) hb x3).setP plU (p := ⟨b, 4, none⟩) hb x4).setP plU (p := ⟨b, 5, none⟩) hb x5).setP plU (p := ⟨b, 6, none⟩) hb x6).setP plU (p := ⟨b, 7, none⟩) hb x7
theorem imgOf_len (b : List UInt8) : (imgOf b).bytes.length ≤ b.length := by
  simp only [imgOf]
  rw [List.length_take, List.length_drop, List.length_drop]
  omega
theorem nums5 (b : List UInt8) : ∃ k s e a o, nums szR b = [k, s, e, a, o] ∧ parseR b = ⟨k, s, e, a, o, if k = 1 then imgOf (b.drop 11) else noImg⟩ := ⟨_, _, _, _, _, rfl, rfl⟩
theorem OwR.int5 {w : World} {M : Ms} {base : Nat} {e : TypeId} {v : Value} {x0 x1 x2 x3 x4 : Int} (h : OwR w M base e v [x0, x1, x2, x3, x4]) : ∃ B c, v = .slice (some ⟨B, 0, none⟩) 5 c ∧ base ≤ B ∧ ∀ i, i < 5 → w.cell? ⟨B, i, none⟩ = #[.int .i64 x0, .int .i64 x1, .int .i64 x2, .int .i64 x3, .int .i64 x4][i]? := by
  obtain ⟨B, c, cs, rfl, hb, -, -, he, hc⟩ := h.at_ (k := 0) (by simp)
  refine ⟨B, c, rfl, hb, fun i hi => ?_⟩
  obtain ⟨b', off, e1, -, x1⟩ := int_at (h.sl' (M := noM) (fun _ _ h => h)) (k := i) (by simpa using hi)
  cases e1
  rw [Nat.zero_add] at x1
  match i, hi with
  | 0, _ => exact x1
  | 1, _ => exact x1
  | 2, _ => exact x1
  | 3, _ => exact x1
  | 4, _ => exact x1

set_option maxRecDepth 100000 in
set_option maxHeartbeats 16000000 in
theorem rread_any (g : Geo) (v : Value) (b : List UInt8) (w : World) (Mi : Ms) (h : SlR w Mi v b) (hl : b.length ≤ 100000) :
    Calls Try.prog 11 #[gv g, v] w fun e w' => RreadP w' w.heap.size g b e ∧ Below w.heap.size w w' := by
  obtain ⟨z, d, sp, sl, an⟩ := g
  obtain ⟨a, c, rfl⟩ := h.form
  have hb1 := (Below.refl w.heap.size w).alloc (Nat.le_refl _) (.cells #[.int .i64 z, .int .i64 d, .int .i64 sp, .int .i64 sl, .int .i64 an] 23)
  have hb2 := hb1.alloc (by simp) (.cells #[.int .i64 0, .int .i64 0, .int .i64 0, .int .i64 0, .int .i64 0, .int .i64 0, .int .i64 0, .slice none 0 0] 28)
  have hG := (Blk.new w 23 #[.int .i64 z, .int .i64 d, .int .i64 sp, .int .i64 sl, .int .i64 an]).alloc (.cells #[.int .i64 0, .int .i64 0, .int .i64 0, .int .i64 0, .int .i64 0, .int .i64 0, .int .i64 0, .slice none 0 0] 28)
  have hR := Blk.new (w.alloc (.cells #[.int .i64 z, .int .i64 d, .int .i64 sp, .int .i64 sl, .int .i64 an] 23)) 28 #[.int .i64 0, .int .i64 0, .int .i64 0, .int .i64 0, .int .i64 0, .int .i64 0, .int .i64 0, .slice none 0 0]
  simp only [World.size_alloc] at hR
  have HB := Lib.hid hb2
  have HG := Lib.hid hG
  have HR := Lib.hid hR
  have H := Lib.hid h.bare
  have hck := Lib.hid (gcheck_any ⟨z, d, sp, sl, an⟩ ((w.alloc (.cells #[.int .i64 z, .int .i64 d, .int .i64 sp, .int .i64 sl, .int .i64 an] 23)).alloc (.cells #[.int .i64 0, .int .i64 0, .int .i64 0, .int .i64 0, .int .i64 0, .int .i64 0, .int .i64 0, .slice none 0 0] 28)))
  unfold gv at hck ⊢
  simp only at hck ⊢
  clear hb1 hb2 hG hR h
  cases hok : okG ⟨z, d, sp, sl, an⟩ with
  | false =>
    have hE := Lib.hid hok
    rw [hok] at hck
    unfold errV at hck
    clear hok
    go_enter Try.func11, Try.ntmps11
    go_wp2_with fail
    ((with_reducible refine hck.out.mono ?_); rintro e w1 ⟨rfl, hB1⟩)
    have hR1 := HR.out.below hB1
    obtain ⟨r1, r2, r3⟩ := hR1.all
    have hx := st8_cells hR1 (.int .i64 0) (.int .i64 0) (.int .i64 0) (.int .i64 0) (.int .i64 0) (.int .i64 0) (.int .i64 0) (.slice none 0 0)
    have HBf := Lib.hid (below_st8 (HB.out.trans (hB1.mono HB.out.size)) (Nat.le_succ _) (.int .i64 0) (.int .i64 0) (.int .i64 0) (.int .i64 0) (.int .i64 0) (.int .i64 0) (.int .i64 0) (.slice none 0 0))
    clear hR1
    go_wp2
    refine bodyPost_ret (v := .tuple #[.agg #[.int .i64 0, .int .i64 0, .int .i64 0, .int .i64 0, .int .i64 0, .int .i64 0, .int .i64 0, .slice none 0 0], .int .i64 1]) (by simp [results, Try.results11, go_sem, hx]) rfl ?_
    exact ⟨.inl ⟨hE.out, rfl⟩, HBf.out⟩
  | true =>
    have hE := Lib.hid hok
    rw [hok] at hck
    unfold errV at hck
    clear hok
    have hgb := Lib.hid (fun r v w' => rbytes_any ⟨z, d, sp, sl, an⟩ r v w')
    go_enter Try.func11, Try.ntmps11
    go_wp2_with fail
    ((with_reducible refine hck.out.mono ?_); rintro e w1 ⟨rfl, hB1⟩)
    have HB1 := Lib.hid (HB.out.trans (hB1.mono HB.out.size))
    have HG1 := Lib.hid (HG.out.below hB1)
    have HR1 := Lib.hid (HR.out.below hB1)
    clear hB1 hck HB HG HR
    go_wp2_with fail
    refine (sizes_any _).mono ?_
    rintro e w2 ⟨rfl, rfl⟩
    have hbs := (Below.refl w1.heap.size w1).alloc (Nat.le_refl _) (.cells #[.int .i64 1, .int .i64 4, .int .i64 4, .int .i64 1, .int .i64 1] 3)
    have hun := Lib.hid (unrow_any _ _ b szR _ noM noM (H.out.mono (Keep.below (HB1.out.trans (hbs.mono HB1.out.size)))) ((OwR.litI w1 noM szR (by simp)).sl (fun _ _ h => h)) (by decide) (by omega) (by simp))
    simp only [List.map_cons, List.map_nil, List.length_cons, List.length_nil, Nat.reduceAdd] at hun
    have HBS := Lib.hid hbs
    clear hbs
    go_wp2_with fail
    ((with_reducible refine hun.out.mono ?_); rintro e w2 ⟨hU, hB2⟩)
    have HB12 := Lib.hid (HBS.out.trans (hB2.mono HBS.out.size))
    have HB2 := Lib.hid (HB1.out.trans (HB12.out.mono HB1.out.size))
    have HG2 := Lib.hid (HG1.out.below HB12.out)
    have HR2 := Lib.hid (HR1.out.below HB12.out)
    clear hB2 hun
    rcases hU with ⟨hfit, v1, v2, rfl, ho1, ho2⟩ | ⟨hfew, rfl⟩
    · have hT : tot szR = 11 := rfl
      rw [hT] at hfit ho2
      obtain ⟨xk, xs, xe, xa, xo, hn5, hpr⟩ := nums5 b
      rw [hn5] at ho1
      obtain ⟨B, cB, rfl, hBB, y⟩ := ho1.int5
      obtain ⟨a2, c2, rfl⟩ := ho2.form
      have HPR := Lib.hid (And.intro hfit hpr)
      have HO2 := Lib.hid ho2
      have hS := Lib.hid (show ∀ i, i < 5 → w2.drew.cell? ⟨B, i, none⟩ = #[.int .i64 xk, .int .i64 xs, .int .i64 xe, .int .i64 xa, .int .i64 xo][i]? from y)
      obtain ⟨R, hR⟩ : ∃ R, R = b.drop 11 := ⟨_, rfl⟩
      rw [← hR] at HO2 ⊢
      have HRe := Lib.hid hR
      clear hfit hpr hn5 ho1 ho2 y hT hR
      go_wp2_with fail
      refine rp_enter [2, 5, 8, 11, 14] (fun W => ∀ i, i < 5 → W.cell? ⟨B, i, none⟩ = #[.int .i64 xk, .int .i64 xs, .int .i64 xe, .int .i64 xa, .int .i64 xo][i]?) (by kernel_rfl) ?_
      apply rp_pure 0 rfl (by kernel_rfl) (fun _ _ _ h => h) rfl
      · (intro W; go_simp; try rfl)
      · (go_simp; try rfl)
      apply rp_pure 1 rfl (by kernel_rfl) (fun _ _ _ h => h) rfl
      · (intro W; go_simp; try rfl)
      · (go_simp; try rfl)
      apply rp_take 2 rfl (by kernel_rfl) (fun _ _ _ h => h) (hS.out) rfl
      · (rintro W hW0; have s := hW0 0 (by omega); clear hW0; go_simp; try rfl)
      · (go_simp; try rfl)
      apply rp_pure 3 rfl (by kernel_rfl) (fun _ _ _ h => h) rfl
      · (intro W; go_simp; try rfl)
      · (go_simp; try rfl)
      apply rp_pure 4 rfl (by kernel_rfl) (fun _ _ _ h => h) rfl
      · (intro W; go_simp; try rfl)
      · (go_simp; try rfl)
      apply rp_take 5 rfl (by kernel_rfl) (fun _ _ _ h => h) (hS.out) rfl
      · (rintro W hW0; have s := hW0 1 (by omega); clear hW0; go_simp; try rfl)
      · (go_simp; try rfl)
      apply rp_pure 6 rfl (by kernel_rfl) (fun _ _ _ h => h) rfl
      · (intro W; go_simp; try rfl)
      · (go_simp; try rfl)
      apply rp_pure 7 rfl (by kernel_rfl) (fun _ _ _ h => h) rfl
      · (intro W; go_simp; try rfl)
      · (go_simp; try rfl)
      apply rp_take 8 rfl (by kernel_rfl) (fun _ _ _ h => h) (hS.out) rfl
      · (rintro W hW0; have s := hW0 2 (by omega); clear hW0; go_simp; try rfl)
      · (go_simp; try rfl)
      apply rp_pure 9 rfl (by kernel_rfl) (fun _ _ _ h => h) rfl
      · (intro W; go_simp; try rfl)
      · (go_simp; try rfl)
      apply rp_pure 10 rfl (by kernel_rfl) (fun _ _ _ h => h) rfl
      · (intro W; go_simp; try rfl)
      · (go_simp; try rfl)
      apply rp_take 11 rfl (by kernel_rfl) (fun _ _ _ h => h) (hS.out) rfl
      · (rintro W hW0; have s := hW0 3 (by omega); clear hW0; go_simp; try rfl)
      · (go_simp; try rfl)
      apply rp_pure 12 rfl (by kernel_rfl) (fun _ _ _ h => h) rfl
      · (intro W; go_simp; try rfl)
      · (go_simp; try rfl)
      apply rp_pure 13 rfl (by kernel_rfl) (fun _ _ _ h => h) rfl
      · (intro W; go_simp; try rfl)
      · (go_simp; try rfl)
      apply rp_take 14 rfl (by kernel_rfl) (fun _ _ _ h => h) (hS.out) rfl
      · (rintro W hW0; have s := hW0 4 (by omega); clear hW0; go_simp; try rfl)
      · (go_simp; try rfl)
      apply rp_pure 15 rfl (by kernel_rfl) (fun _ _ _ h => h) rfl
      · (intro W; go_simp; try rfl)
      · (go_simp; try rfl)
      refine rp_only 16 (by kernel_rfl) rfl (fun K hK => ?_)
      go_simp
      have hBl : B < w2.heap.size := World.block_lt_of_cell? w2 ⟨B, 0, none⟩ (hS.out 0 (by omega))
      have hbA := ((Below.refl w2.heap.size w2).alloc (Nat.le_refl _) (.cells #[.int .i64 0, .int .i64 0, .int .i64 0, .int .i64 0, .int .i64 0, .int .i64 0, .int .i64 0, .slice none 0 0] 28)).drew
      have hS2 := Lib.hid (fun (i : Nat) (hi : i < 5) => ((bcell hbA).1 B i hBl).trans (hS.out i hi))
      refine hK _ _ ⟨fun _ _ => hS2.out, ?_⟩; clear hK K
      obtain ⟨q1, q2, q3⟩ := (Blk.new w2 28 #[.int .i64 0, .int .i64 0, .int .i64 0, .int .i64 0, .int .i64 0, .int .i64 0, .int .i64 0, .slice none 0 0]).all
      clear hbA
      refine rp_free 17 (by kernel_rfl) (by kernel_rfl) rfl (fun K hK => ?_)
      go_simp
      refine hK _ _ ?_; clear hK K q1 q2 q3
      refine rp_done (by kernel_rfl) ?_
      have hbW := ((Below.refl w2.heap.size w2).alloc (Nat.le_refl _) (.cells #[.int .i64 xk, .int .i64 xs, .int .i64 xe, .int .i64 xa, .int .i64 xo, .int .i64 0, .int .i64 0, .slice none 0 0] 28)).drew
      have HBW := Lib.hid (HB2.out.trans (hbW.mono HB2.out.size))
      have HGW := Lib.hid (HG2.out.below hbW)
      have HRW := Lib.hid (HR2.out.below hbW)
      have HQW := Lib.hid ((Blk.new w2 28 #[.int .i64 xk, .int .i64 xs, .int .i64 xe, .int .i64 xa, .int .i64 xo, .int .i64 0, .int .i64 0, .slice none 0 0]).drew)
      have HOW := Lib.hid ((HO2.out.below hbW).mono_base (base' := w.heap.size) (Nat.le_trans HB1.out.size HBS.out.size))
      have HQl := Lib.hid (show w.heap.size + 1 < w2.heap.size from HR2.out.lt)
      clear hbW hS hS2 hBl hBB HO2
      obtain ⟨W, hW⟩ : ∃ W, W = (w2.alloc (.cells #[.int .i64 xk, .int .i64 xs, .int .i64 xe, .int .i64 xa, .int .i64 xo, .int .i64 0, .int .i64 0, .slice none 0 0] 28)).drew := ⟨_, rfl⟩
      rw [← hW] at HBW HGW HRW HQW HOW ⊢
      clear hW
      obtain ⟨q, hq⟩ : ∃ q, q = w2.heap.size := ⟨_, rfl⟩
      rw [← hq] at HQW HQl ⊢
      clear hq
      obtain ⟨q1, q2, q3⟩ := HQW.out.all
      by_cases hk : xk = 1
      · subst hk
        have hsh := Lib.hid (shown_any _ R W noM (HOW.out.sl (fun _ _ h => h)) (by have := HRe.out; rw [this, List.length_drop]; omega))
        go_wp2_with fail
        ((with_reducible refine hsh.out.mono ?_); rintro e w7 ⟨hU, hB7⟩)
        clear q1 q2 q3
        have HB7 := Lib.hid (HBW.out.trans (hB7.mono HBW.out.size))
        have HG7 := Lib.hid (HGW.out.below hB7)
        have HR7 := Lib.hid (HRW.out.below hB7)
        have HQ7 := Lib.hid (HQW.out.below hB7)
        have HWl := Lib.hid HQW.out.lt
        clear hB7 hsh
        obtain ⟨q1, q2, q3⟩ := HQ7.out.all
        rcases hU with ⟨hso, vI, rfl, hoI⟩ | ⟨hsn, x, y, rfl⟩
        · obtain ⟨aI, cI, rfl⟩ := hoI.form
          have HVI := Lib.hid hoI
          have HSO := Lib.hid hso
          clear hoI hso
          obtain ⟨g1, g2, g3⟩ := HG7.out.all
          go_wp2_with fail
          clear q1 q2 q3 g1 g2 g3
          have HB8 := Lib.hid (((HB7.out.setCell (p := ⟨q, 5, none⟩) (by have := HQl.out; simp; omega) (.int .i64 (imgOf R).zone)).setCell (p := ⟨q, 6, none⟩) (by have := HQl.out; simp; omega) (.int .i64 (imgOf R).what)).setCell (p := ⟨q, 7, none⟩) (by have := HQl.out; simp; omega) (.slice aI (imgOf R).bytes.length cI))
          have HG8 := Lib.hid (((HG7.out.far (p := ⟨q, 5, none⟩) (by have := HQl.out; simp; omega) (.int .i64 (imgOf R).zone)).far (p := ⟨q, 6, none⟩) (by have := HQl.out; simp; omega) (.int .i64 (imgOf R).what)).far (p := ⟨q, 7, none⟩) (by have := HQl.out; simp; omega) (.slice aI (imgOf R).bytes.length cI))
          have HR8 := Lib.hid (((HR7.out.far (p := ⟨q, 5, none⟩) (by have := HQl.out; simp; omega) (.int .i64 (imgOf R).zone)).far (p := ⟨q, 6, none⟩) (by have := HQl.out; simp; omega) (.int .i64 (imgOf R).what)).far (p := ⟨q, 7, none⟩) (by have := HQl.out; simp; omega) (.slice aI (imgOf R).bytes.length cI))
          have HQ8 : Hid (Blk (((w7.setCell ⟨q, 5, none⟩ (.int .i64 (imgOf R).zone)).setCell ⟨q, 6, none⟩ (.int .i64 (imgOf R).what)).setCell ⟨q, 7, none⟩ (.slice aI (imgOf R).bytes.length cI)) q 28 #[.int .i64 1, .int .i64 xs, .int .i64 xe, .int .i64 xa, .int .i64 xo, .int .i64 (imgOf R).zone, .int .i64 (imgOf R).what, .slice aI (imgOf R).bytes.length cI]) := Lib.hid (((HQ7.out.set_ 5 (.int .i64 (imgOf R).zone)).set_ 6 (.int .i64 (imgOf R).what)).set_ 7 (.slice aI (imgOf R).bytes.length cI))
          have hnq : (.slice aI (imgOf R).bytes.length cI : Value).ownBlock ≠ some q := fun e => by have := HVI.out.own_ge e; have := HWl.out; omega
          have HVI8 := Lib.hid (And.intro (((HVI.out.setP plU (p := ⟨q, 5, none⟩) hnq (.int .i64 (imgOf R).zone)).setP plU (p := ⟨q, 6, none⟩) hnq (.int .i64 (imgOf R).what)).setP plU (p := ⟨q, 7, none⟩) hnq (.slice aI (imgOf R).bytes.length cI)) trivial)
          clear hnq
          obtain ⟨W8, hW8⟩ : ∃ W8, W8 = ((w7.setCell ⟨q, 5, none⟩ (.int .i64 (imgOf R).zone)).setCell ⟨q, 6, none⟩ (.int .i64 (imgOf R).what)).setCell ⟨q, 7, none⟩ (.slice aI (imgOf R).bytes.length cI) := ⟨_, rfl⟩
          rw [← hW8] at HB8 HG8 HR8 HQ8 HVI8 ⊢
          clear hW8
          have hby := Lib.hid (hgb.out ⟨1, xs, xe, xa, xo, imgOf R⟩ (.slice aI (imgOf R).bytes.length cI) W8 noM (HVI8.out.1.sl (fun _ _ h => h)) (Nat.le_trans (imgOf_len R) (by rw [HRe.out, List.length_drop]; omega)))
          unfold gv rv at hby

          ((with_reducible refine hby.out.mono ?_); rintro e w9 ⟨hU, hB9⟩)
          have HB9 := Lib.hid (HB8.out.trans (hB9.mono HB8.out.size))
          have HR9 := Lib.hid (HR8.out.below hB9)
          have HQ9 := Lib.hid (HQ8.out.below hB9)
          have HV9 := Lib.hid (HVI8.out.1.below hB9)
          clear hB9 hby
          have HRR := Lib.hid (show parseR b = ⟨1, xs, xe, xa, xo, imgOf R⟩ by
            have hpr := HPR.out.2
            simp only [if_true, ← HRe.out] at hpr
            exact hpr)
          rcases hU with ⟨hok, vb, rfl, hob⟩ | ⟨hno, rfl⟩
          · have heq := Lib.hid (equal_any vb (.slice a b.length c) (recB ⟨1, xs, xe, xa, xo, imgOf R⟩) b w9 noM noM (hob.sl (fun _ _ h => h)) (H.out.mono (Keep.below HB9.out)))
            obtain ⟨ab, cb, rfl⟩ := hob.form
            have HOK := Lib.hid hok
            clear hok hob
            cases hd : decide (recB ⟨1, xs, xe, xa, xo, imgOf R⟩ = b) with
            | false =>
              have HN := Lib.hid (show readR ⟨z, d, sp, sl, an⟩ b = none by
                rw [readR, if_neg]
                rintro ⟨h1, h2, h3, h4⟩
                rw [HRR.out] at h4
                simp [h4] at hd)
              rw [hd] at heq
              clear hd
              have hR9 := HR9.out
              obtain ⟨r1, r2, r3⟩ := hR9.all
              have hx := st8_cells hR9 (.int .i64 0) (.int .i64 0) (.int .i64 0) (.int .i64 0) (.int .i64 0) (.int .i64 0) (.int .i64 0) (.slice none 0 0)
              have HBf := Lib.hid (below_st8 HB9.out (Nat.le_succ _) (.int .i64 0) (.int .i64 0) (.int .i64 0) (.int .i64 0) (.int .i64 0) (.int .i64 0) (.int .i64 0) (.slice none 0 0))
              clear hR9
              go_wp2_with (go_at_call 40; go_must (with_reducible refine heq.out.mono ?_); rintro e w10 ⟨rfl, rfl⟩)
              refine bodyPost_ret (v := .tuple #[.agg #[.int .i64 0, .int .i64 0, .int .i64 0, .int .i64 0, .int .i64 0, .int .i64 0, .int .i64 0, .slice none 0 0], .int .i64 4]) (by simp [results, Try.results11, go_sem, hx]) rfl ?_
              exact ⟨.inr (.inl ⟨hE.out, HN.out, rfl⟩), HBf.out⟩
            | true =>
              have HY := Lib.hid (show readR ⟨z, d, sp, sl, an⟩ b = some ⟨1, xs, xe, xa, xo, imgOf R⟩ by
                rw [readR, if_pos, HRR.out]
                rw [HRR.out]
                exact ⟨HPR.out.1, fun _ => by rw [← HRe.out]; exact HSO.out, HOK.out, by simpa using hd⟩)
              rw [hd] at heq
              clear hd
              have hR9 := HR9.out
              obtain ⟨r1, r2, r3⟩ := hR9.all
              obtain ⟨q1, q2, q3⟩ := HQ9.out.all
              have hx := st8_cells hR9 (.int .i64 1) (.int .i64 xs) (.int .i64 xe) (.int .i64 xa) (.int .i64 xo) (.int .i64 (imgOf R).zone) (.int .i64 (imgOf R).what) (.slice aI (imgOf R).bytes.length cI)
              have HBf := Lib.hid (below_st8 HB9.out (Nat.le_succ _) (.int .i64 1) (.int .i64 xs) (.int .i64 xe) (.int .i64 xa) (.int .i64 xo) (.int .i64 (imgOf R).zone) (.int .i64 (imgOf R).what) (.slice aI (imgOf R).bytes.length cI))
              clear hR9
              go_wp2_with (go_at_call 40; go_must (with_reducible refine heq.out.mono ?_); rintro e w10 ⟨rfl, rfl⟩)
              refine bodyPost_ret (v := .tuple #[.agg #[.int .i64 1, .int .i64 xs, .int .i64 xe, .int .i64 xa, .int .i64 xo, .int .i64 (imgOf R).zone, .int .i64 (imgOf R).what, .slice aI (imgOf R).bytes.length cI], .int .i64 0]) (by simp [results, Try.results11, go_sem, hx]) rfl ?_
              exact ⟨.inr (.inr ⟨hE.out, _, _, HY.out, rfl, ow_st8 (HV9.out.mono_base HBW.out.size) (fun e => by have := HV9.out.own_ge e; have := HWl.out; have := HQl.out; omega) _ _ _ _ _ _ _ _⟩), HBf.out⟩
          · have HN := Lib.hid (show readR ⟨z, d, sp, sl, an⟩ b = none by
              rw [readR, if_neg]
              rintro ⟨h1, h2, h3, h4⟩
              rw [HRR.out] at h3
              exact absurd (h3.symm.trans hno) (by simp))
            clear hno
            have hR9 := HR9.out
            obtain ⟨r1, r2, r3⟩ := hR9.all
            have hx := st8_cells hR9 (.int .i64 0) (.int .i64 0) (.int .i64 0) (.int .i64 0) (.int .i64 0) (.int .i64 0) (.int .i64 0) (.slice none 0 0)
            have HBf := Lib.hid (below_st8 HB9.out (Nat.le_succ _) (.int .i64 0) (.int .i64 0) (.int .i64 0) (.int .i64 0) (.int .i64 0) (.int .i64 0) (.int .i64 0) (.slice none 0 0))
            clear hR9
            go_wp2
            refine bodyPost_ret (v := .tuple #[.agg #[.int .i64 0, .int .i64 0, .int .i64 0, .int .i64 0, .int .i64 0, .int .i64 0, .int .i64 0, .slice none 0 0], .int .i64 4]) (by simp [results, Try.results11, go_sem, hx]) rfl ?_
            exact ⟨.inr (.inl ⟨hE.out, HN.out, rfl⟩), HBf.out⟩
        · have HSN := Lib.hid hsn
          clear hsn
          obtain ⟨g1, g2, g3⟩ := HG7.out.all
          go_wp2_with fail
          clear q1 q2 q3 g1 g2 g3
          have HB8 := Lib.hid (((HB7.out.setCell (p := ⟨q, 5, none⟩) (by have := HQl.out; simp; omega) (.int .i64 x)).setCell (p := ⟨q, 6, none⟩) (by have := HQl.out; simp; omega) (.int .i64 y)).setCell (p := ⟨q, 7, none⟩) (by have := HQl.out; simp; omega) (.slice none 0 0))
          have HG8 := Lib.hid (((HG7.out.far (p := ⟨q, 5, none⟩) (by have := HQl.out; simp; omega) (.int .i64 x)).far (p := ⟨q, 6, none⟩) (by have := HQl.out; simp; omega) (.int .i64 y)).far (p := ⟨q, 7, none⟩) (by have := HQl.out; simp; omega) (.slice none 0 0))
          have HR8 := Lib.hid (((HR7.out.far (p := ⟨q, 5, none⟩) (by have := HQl.out; simp; omega) (.int .i64 x)).far (p := ⟨q, 6, none⟩) (by have := HQl.out; simp; omega) (.int .i64 y)).far (p := ⟨q, 7, none⟩) (by have := HQl.out; simp; omega) (.slice none 0 0))
          have HQ8 : Hid (Blk (((w7.setCell ⟨q, 5, none⟩ (.int .i64 x)).setCell ⟨q, 6, none⟩ (.int .i64 y)).setCell ⟨q, 7, none⟩ (.slice none 0 0)) q 28 #[.int .i64 1, .int .i64 xs, .int .i64 xe, .int .i64 xa, .int .i64 xo, .int .i64 x, .int .i64 y, .slice none 0 0]) := Lib.hid (((HQ7.out.set_ 5 (.int .i64 x)).set_ 6 (.int .i64 y)).set_ 7 (.slice none 0 0))
          obtain ⟨W8, hW8⟩ : ∃ W8, W8 = ((w7.setCell ⟨q, 5, none⟩ (.int .i64 x)).setCell ⟨q, 6, none⟩ (.int .i64 y)).setCell ⟨q, 7, none⟩ (.slice none 0 0) := ⟨_, rfl⟩
          rw [← hW8] at HB8 HG8 HR8 HQ8  ⊢
          clear hW8
          have hby := Lib.hid (hgb.out ⟨1, xs, xe, xa, xo, ⟨x, y, []⟩⟩ (.slice none 0 0) W8 noM (sl_nil _ _ 0 (by simp [maxLen])) (by simp [noImg]))
          unfold gv rv at hby
          simp only at hby
          ((with_reducible refine hby.out.mono ?_); rintro e w9 ⟨hU, hB9⟩)
          have HB9 := Lib.hid (HB8.out.trans (hB9.mono HB8.out.size))
          have HR9 := Lib.hid (HR8.out.below hB9)
          have HQ9 := Lib.hid (HQ8.out.below hB9)
          clear hB9 hby
          have HN := Lib.hid (show readR ⟨z, d, sp, sl, an⟩ b = none by
            rw [readR, if_neg]
            rintro ⟨h1, h2, h3, h4⟩
            have h5 := h2 (by rw [HPR.out.2])
            rw [← HRe.out, HSN.out] at h5
            cases h5)
          rcases hU with ⟨-, vb, rfl, hob⟩ | ⟨-, rfl⟩
          · obtain ⟨ab, cb, rfl⟩ := hob.form
            clear hob
            have hR9 := HR9.out
            obtain ⟨r1, r2, r3⟩ := hR9.all
            have hx := st8_cells hR9 (.int .i64 0) (.int .i64 0) (.int .i64 0) (.int .i64 0) (.int .i64 0) (.int .i64 0) (.int .i64 0) (.slice none 0 0)
            have HBf := Lib.hid (below_st8 HB9.out (Nat.le_succ _) (.int .i64 0) (.int .i64 0) (.int .i64 0) (.int .i64 0) (.int .i64 0) (.int .i64 0) (.int .i64 0) (.slice none 0 0))
            clear hR9
            go_wp2
            refine bodyPost_ret (v := .tuple #[.agg #[.int .i64 0, .int .i64 0, .int .i64 0, .int .i64 0, .int .i64 0, .int .i64 0, .int .i64 0, .slice none 0 0], .int .i64 4]) (by simp [results, Try.results11, go_sem, hx]) rfl ?_
            exact ⟨.inr (.inl ⟨hE.out, HN.out, rfl⟩), HBf.out⟩
          · skip
            have hR9 := HR9.out
            obtain ⟨r1, r2, r3⟩ := hR9.all
            have hx := st8_cells hR9 (.int .i64 0) (.int .i64 0) (.int .i64 0) (.int .i64 0) (.int .i64 0) (.int .i64 0) (.int .i64 0) (.slice none 0 0)
            have HBf := Lib.hid (below_st8 HB9.out (Nat.le_succ _) (.int .i64 0) (.int .i64 0) (.int .i64 0) (.int .i64 0) (.int .i64 0) (.int .i64 0) (.int .i64 0) (.slice none 0 0))
            clear hR9
            go_wp2
            refine bodyPost_ret (v := .tuple #[.agg #[.int .i64 0, .int .i64 0, .int .i64 0, .int .i64 0, .int .i64 0, .int .i64 0, .int .i64 0, .slice none 0 0], .int .i64 4]) (by simp [results, Try.results11, go_sem, hx]) rfl ?_
            exact ⟨.inr (.inl ⟨hE.out, HN.out, rfl⟩), HBf.out⟩
      · have hk' : (xk == 1) = false := by simpa using hk
        have hkk := Lib.hid hk
        clear hk q1 q2 q3
        obtain ⟨q1, q2, q3⟩ := HQW.out.all
        have HB8 := HBW
        have HG8 := HGW
        have HR8 := HRW
        have HQ8 := HQW
        obtain ⟨W8, hW8⟩ : ∃ W8, W8 = W := ⟨_, rfl⟩
        rw [← hW8] at HB8 HG8 HR8 HQ8 q1 q2 q3 ⊢
        clear hW8
        obtain ⟨g1, g2, g3⟩ := HG8.out.all
        go_wp2_with fail
        clear q1 q2 q3 g1 g2 g3
        have hby := Lib.hid (hgb.out ⟨xk, xs, xe, xa, xo, noImg⟩ (.slice none 0 0) W8 noM (sl_nil _ _ 0 (by simp [maxLen])) (by simp [noImg]))
        unfold gv rv at hby
        simp only [noImg] at hby
        ((with_reducible refine hby.out.mono ?_); rintro e w9 ⟨hU, hB9⟩)
        have HB9 := Lib.hid (HB8.out.trans (hB9.mono HB8.out.size))
        have HR9 := Lib.hid (HR8.out.below hB9)
        have HQ9 := Lib.hid (HQ8.out.below hB9)
        clear hB9 hby
        have HRR := Lib.hid (show parseR b = ⟨xk, xs, xe, xa, xo, noImg⟩ by
          have hpr := HPR.out.2
          simp only [if_neg hkk.out] at hpr
          exact hpr)
        rcases hU with ⟨hok, vb, rfl, hob⟩ | ⟨hno, rfl⟩
        · have heq := Lib.hid (equal_any vb (.slice a b.length c) (recB ⟨xk, xs, xe, xa, xo, noImg⟩) b w9 noM noM (hob.sl (fun _ _ h => h)) (H.out.mono (Keep.below HB9.out)))
          obtain ⟨ab, cb, rfl⟩ := hob.form
          have HOK := Lib.hid hok
          clear hok hob
          cases hd : decide (recB ⟨xk, xs, xe, xa, xo, noImg⟩ = b) with
          | false =>
            have HN := Lib.hid (show readR ⟨z, d, sp, sl, an⟩ b = none by
              rw [readR, if_neg]
              rintro ⟨h1, h2, h3, h4⟩
              rw [HRR.out] at h4
              simp [h4] at hd)
            rw [hd] at heq
            clear hd
            have hR9 := HR9.out
            obtain ⟨r1, r2, r3⟩ := hR9.all
            have hx := st8_cells hR9 (.int .i64 0) (.int .i64 0) (.int .i64 0) (.int .i64 0) (.int .i64 0) (.int .i64 0) (.int .i64 0) (.slice none 0 0)
            have HBf := Lib.hid (below_st8 HB9.out (Nat.le_succ _) (.int .i64 0) (.int .i64 0) (.int .i64 0) (.int .i64 0) (.int .i64 0) (.int .i64 0) (.int .i64 0) (.slice none 0 0))
            clear hR9
            go_wp2_with (go_at_call 40; go_must (with_reducible refine heq.out.mono ?_); rintro e w10 ⟨rfl, rfl⟩)
            refine bodyPost_ret (v := .tuple #[.agg #[.int .i64 0, .int .i64 0, .int .i64 0, .int .i64 0, .int .i64 0, .int .i64 0, .int .i64 0, .slice none 0 0], .int .i64 4]) (by simp [results, Try.results11, go_sem, hx]) rfl ?_
            exact ⟨.inr (.inl ⟨hE.out, HN.out, rfl⟩), HBf.out⟩
          | true =>
            have HY := Lib.hid (show readR ⟨z, d, sp, sl, an⟩ b = some ⟨xk, xs, xe, xa, xo, noImg⟩ by
              rw [readR, if_pos, HRR.out]
              rw [HRR.out]
              exact ⟨HPR.out.1, fun h => absurd h hkk.out, HOK.out, by simpa using hd⟩)
            rw [hd] at heq
            clear hd
            have hR9 := HR9.out
            obtain ⟨r1, r2, r3⟩ := hR9.all
            obtain ⟨q1, q2, q3⟩ := HQ9.out.all
            have hx := st8_cells hR9 (.int .i64 xk) (.int .i64 xs) (.int .i64 xe) (.int .i64 xa) (.int .i64 xo) (.int .i64 0) (.int .i64 0) (.slice none 0 0)
            have HBf := Lib.hid (below_st8 HB9.out (Nat.le_succ _) (.int .i64 xk) (.int .i64 xs) (.int .i64 xe) (.int .i64 xa) (.int .i64 xo) (.int .i64 0) (.int .i64 0) (.slice none 0 0))
            clear hR9
            go_wp2_with (go_at_call 40; go_must (with_reducible refine heq.out.mono ?_); rintro e w10 ⟨rfl, rfl⟩)
            refine bodyPost_ret (v := .tuple #[.agg #[.int .i64 xk, .int .i64 xs, .int .i64 xe, .int .i64 xa, .int .i64 xo, .int .i64 0, .int .i64 0, .slice none 0 0], .int .i64 0]) (by simp [results, Try.results11, go_sem, hx]) rfl ?_
            exact ⟨.inr (.inr ⟨hE.out, _, _, HY.out, rfl, OwR.nil _ _ _ _⟩), HBf.out⟩
        · have HN := Lib.hid (show readR ⟨z, d, sp, sl, an⟩ b = none by
            rw [readR, if_neg]
            rintro ⟨h1, h2, h3, h4⟩
            rw [HRR.out] at h3
            exact absurd (h3.symm.trans hno) (by simp))
          clear hno
          have hR9 := HR9.out
          obtain ⟨r1, r2, r3⟩ := hR9.all
          have hx := st8_cells hR9 (.int .i64 0) (.int .i64 0) (.int .i64 0) (.int .i64 0) (.int .i64 0) (.int .i64 0) (.int .i64 0) (.slice none 0 0)
          have HBf := Lib.hid (below_st8 HB9.out (Nat.le_succ _) (.int .i64 0) (.int .i64 0) (.int .i64 0) (.int .i64 0) (.int .i64 0) (.int .i64 0) (.int .i64 0) (.slice none 0 0))
          clear hR9
          go_wp2
          refine bodyPost_ret (v := .tuple #[.agg #[.int .i64 0, .int .i64 0, .int .i64 0, .int .i64 0, .int .i64 0, .int .i64 0, .int .i64 0, .slice none 0 0], .int .i64 4]) (by simp [results, Try.results11, go_sem, hx]) rfl ?_
          exact ⟨.inr (.inl ⟨hE.out, HN.out, rfl⟩), HBf.out⟩
    · have hR2 := HR2.out
      obtain ⟨r1, r2, r3⟩ := hR2.all
      have hx := st8_cells hR2 (.int .i64 0) (.int .i64 0) (.int .i64 0) (.int .i64 0) (.int .i64 0) (.int .i64 0) (.int .i64 0) (.slice none 0 0)
      have HBf := Lib.hid (below_st8 HB2.out (Nat.le_succ _) (.int .i64 0) (.int .i64 0) (.int .i64 0) (.int .i64 0) (.int .i64 0) (.int .i64 0) (.int .i64 0) (.slice none 0 0))
      have hN := Lib.hid (show readR ⟨z, d, sp, sl, an⟩ b = none by
        have : tot szR = 11 := rfl
        rw [readR, if_neg]
        rintro ⟨h, -⟩
        omega)
      clear hR2 hfew
      go_wp2
      refine bodyPost_ret (v := .tuple #[.agg #[.int .i64 0, .int .i64 0, .int .i64 0, .int .i64 0, .int .i64 0, .int .i64 0, .int .i64 0, .slice none 0 0], .int .i64 4]) (by simp [results, Try.results11, go_sem, hx]) rfl ?_
      exact ⟨.inr (.inl ⟨hE.out, hN.out, rfl⟩), HBf.out⟩
end Go.Proofs.Ytpknhpfbinplgaa
