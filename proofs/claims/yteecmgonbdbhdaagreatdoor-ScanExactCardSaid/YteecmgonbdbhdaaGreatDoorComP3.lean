/-
Several texts in one.
-/
import Derived.Test.YteecmgonbdbhdaaGreatDoorComP2
import Derived.Laws.MakeOwn
import Derived.Test.YteecmgonbdbhdaaGreatDoorComP1

/-
rec.Bytes.
-/
section
namespace Go.Proofs.YteecmgonbdbhdaaGreatDoor
open Go.RowKit
attribute [local go_sem ↓] Go.wp_at_zero Go.wp_at_succ

def RbytesP (w' : World) (base : Nat) (g : Geo) (r : Rc) (e : Ending) : Prop :=
  (okR g r = true ∧ ∃ v, e = .returned (.tuple #[v, .int .i64 0]) ∧ OwR w' noM base 5 v (recB r)) ∨ (okR g r = false ∧ e = .returned (.tuple #[.slice none 0 0, .int .i64 1]))
theorem asNilEnd (w : World) : (Instr.typeAssert .nilIface 20 153 true).run Tryz.prog w = .ok (.tuple #[.agg #[], .bool false]) w := by kernel_rfl
theorem asImgEnd (w : World) (v : Value) : (Instr.typeAssert (.iface 156 v) 20 153 true).run Tryz.prog w = .ok (.tuple #[.agg #[], .bool false]) w := by kernel_rfl
theorem asEndEnd (w : World) (v : Value) : (Instr.typeAssert (.iface 153 v) 20 153 true).run Tryz.prog w = .ok (.tuple #[v, .bool true]) w := by kernel_rfl
theorem asImg (w : World) (v : Value) : (Instr.typeAssert (.iface 156 v) 20 156 false).run Tryz.prog w = .ok v w := by kernel_rfl
attribute [local go_sem] asNilEnd asImgEnd asEndEnd asImg
theorem whatB_min : whatB (-1) = 254 := rfl
theorem imgB_len (x : Img) : (imgB x).length = 3 + x.bytes.length := by
  simp only [imgB, List.length_append, tot_rowB [x.zone, whatB x.what] [1, 1] rfl, List.length_cons]
  have : tot [1, 1] = 2 := rfl
  omega
/-- The source of a second append: newer than the row at the first one. -/
theorem app_src {w5 w7 w8 : World} {M1 : Ms} {base n5 : Nat} {e1 e7 : TypeId} {v5 v7 v8 : Value} {l5 l7 : List UInt8} (h5 : OwR w5 M1 base e1 v5 l5) (_hb : Below w5.heap.size w5 w7) (_h5' : OwR w7 M1 base e1 v5 l5) (h7 : OwR w7 noM n5 e7 v7 l7) (hn : w5.heap.size ≤ n5) (hg : w7.grownBy w8 v5.ownBlock) (hat : v8.ownBlock = v5.ownBlock ∨ v8.ownBlock = some w7.heap.size) :
    SlR w8 (fun b => noM b ∨ v8.ownBlock = some b) v7 l7 := by
  have hne : ∀ g, v7.ownBlock = some g → v5.ownBlock ≠ some g := fun g e e' => by have a1 := h5.own_lt e'; have a2 := h7.own_ge e; omega
  have h8 : OwR w8 noM n5 e7 v7 l7 := h7.keptP plU hg (by
    cases h : v7.ownBlock with
    | none => exact .inl rfl
    | some g => exact .inr fun e => hne g h e.symm)
  refine (OwR.pl plU h8).sl' fun b hb hm => hm.elim (fun h => h) fun h => ?_
  rcases hat with h' | h'
  · exact hne b hb (h'.symm.trans h)
  · have a1 := h7.own_lt hb
    rw [h'] at h
    injection h with h
    omega
theorem rowR_len (r : Rc) : (rowB (numsOf r) szR).length = 11 := by rw [tot_rowB (numsOf r) szR rfl]; rfl

set_option maxHeartbeats 4000000 in
theorem rbytes_no (g : Geo) (r : Rc) (v : Value) (w : World) (Mi : Ms) (h : SlR w Mi v r.img.bytes) (hl : r.img.bytes.length ≤ 100000) (hno : okR g r = false) :
    Calls Tryz.prog 79 #[gv g, rv r v] w fun e w' => RbytesP w' w.heap.size g r e ∧ Below w.heap.size w w' := by
  obtain ⟨kind, seq, epoch, at_, of_, ⟨zone, what, bytes⟩⟩ := r
  obtain ⟨z, d, sp, sl, an⟩ := g
  simp only at h hl
  obtain ⟨a, c, rfl⟩ := h.form
  have hb1 := (Below.refl w.heap.size w).alloc (Nat.le_refl _) (.cells #[.int .i64 z, .int .i64 d, .int .i64 sp, .int .i64 sl, .int .i64 an] 23)
  have hb2 := hb1.alloc (by simp) (.cells #[.int .i64 kind, .int .i64 seq, .int .i64 epoch, .int .i64 at_, .int .i64 of_, .int .i64 zone, .int .i64 what, .slice a bytes.length c] 76)
  have hG := (Blk.new w 23 #[.int .i64 z, .int .i64 d, .int .i64 sp, .int .i64 sl, .int .i64 an]).alloc (.cells #[.int .i64 kind, .int .i64 seq, .int .i64 epoch, .int .i64 at_, .int .i64 of_, .int .i64 zone, .int .i64 what, .slice a bytes.length c] 76)
  have hT := Blk.new (w.alloc (.cells #[.int .i64 z, .int .i64 d, .int .i64 sp, .int .i64 sl, .int .i64 an] 23)) 76 #[.int .i64 kind, .int .i64 seq, .int .i64 epoch, .int .i64 at_, .int .i64 of_, .int .i64 zone, .int .i64 what, .slice a bytes.length c]
  simp only [World.size_alloc] at hT
  have hbe := Lib.hid (behind_any ⟨z, d, sp, sl, an⟩ ⟨kind, seq, epoch, at_, of_, ⟨zone, what, bytes⟩⟩ (.slice a bytes.length c) _ Mi (h.mono (Keep.below hb2)) hl)
  have HB := Lib.hid hb2
  have HG := Lib.hid hG
  have HT := Lib.hid hT
  have H := Lib.hid h.bare
  clear hb1 hb2 hG hT h
  have hgc := fun w => gcheck_any ⟨z, d, sp, sl, an⟩ w
  obtain ⟨V, hV⟩ : ∃ V, V = behV ⟨kind, seq, epoch, at_, of_, ⟨zone, what, bytes⟩⟩ (.slice a bytes.length c) := ⟨_, rfl⟩
  rw [← hV] at hbe
  unfold gv rv at hbe ⊢
  unfold gv errV at hgc
  simp only at hbe hgc ⊢
  have hN := Lib.hid hno
  have hE := Lib.hid (show (okG ⟨z, d, sp, sl, an⟩ && behOk ⟨z, d, sp, sl, an⟩ ⟨kind, seq, epoch, at_, of_, ⟨zone, what, bytes⟩⟩) = false from hno)
  clear hV hno
  obtain ⟨bo, hbo⟩ : ∃ bo, bo = behOk ⟨z, d, sp, sl, an⟩ ⟨kind, seq, epoch, at_, of_, ⟨zone, what, bytes⟩⟩ := ⟨_, rfl⟩
  obtain ⟨bg, hbg⟩ : ∃ bg, bg = okG ⟨z, d, sp, sl, an⟩ := ⟨_, rfl⟩
  rw [← hbo] at hbe hE
  rw [← hbg] at hgc hE
  clear hbo hbg
  cases bg with
  | false =>
    go_enter Tryz.func79, Tryz.ntmps79
    go_wp2_with fail
    ((with_reducible refine hbe.out.mono ?_); rintro e w1 ⟨rfl, hB1⟩)
    obtain ⟨g1, g2, g3⟩ := (HG.out.below hB1).all
    have HB1 := Lib.hid (HB.out.trans (hB1.mono HB.out.size))
    clear hB1
    go_wp2_with fail
    ((with_reducible refine (hgc _).mono ?_); rintro e w2 ⟨rfl, hB2⟩)
    have HB2 := Lib.hid (HB1.out.trans (hB2.mono HB1.out.size))
    go_wp2
    go_ret2
    exact ⟨.inr ⟨hN.out, rfl⟩, HB2.out⟩
  | true =>
    obtain rfl : bo = false := by have := hE.out; simpa using this
    go_enter Tryz.func79, Tryz.ntmps79
    go_wp2_with fail
    ((with_reducible refine hbe.out.mono ?_); rintro e w1 ⟨rfl, hB1⟩)
    obtain ⟨g1, g2, g3⟩ := (HG.out.below hB1).all
    have HB1 := Lib.hid (HB.out.trans (hB1.mono HB.out.size))
    clear hB1
    go_wp2_with fail
    ((with_reducible refine (hgc _).mono ?_); rintro e w2 ⟨rfl, hB2⟩)
    have HB2 := Lib.hid (HB1.out.trans (hB2.mono HB1.out.size))
    go_wp2
    go_ret2
    exact ⟨.inr ⟨hN.out, rfl⟩, HB2.out⟩

set_option maxRecDepth 100000 in
set_option maxHeartbeats 16000000 in
theorem rbytes_0 (g : Geo) (r : Rc) (v : Value) (w : World) (Mi : Ms) (h : SlR w Mi v r.img.bytes) (hl : r.img.bytes.length ≤ 100000) (hok : okR g r = true) (hk : r.kind = 0) :
    Calls Tryz.prog 79 #[gv g, rv r v] w fun e w' => RbytesP w' w.heap.size g r e ∧ Below w.heap.size w w' := by
  obtain ⟨kind, seq, epoch, at_, of_, ⟨zone, what, bytes⟩⟩ := r
  obtain ⟨z, d, sp, sl, an⟩ := g
  simp only at h hl
  obtain ⟨a, c, rfl⟩ := h.form
  have hb1 := (Below.refl w.heap.size w).alloc (Nat.le_refl _) (.cells #[.int .i64 z, .int .i64 d, .int .i64 sp, .int .i64 sl, .int .i64 an] 23)
  have hb2 := hb1.alloc (by simp) (.cells #[.int .i64 kind, .int .i64 seq, .int .i64 epoch, .int .i64 at_, .int .i64 of_, .int .i64 zone, .int .i64 what, .slice a bytes.length c] 76)
  have hG := (Blk.new w 23 #[.int .i64 z, .int .i64 d, .int .i64 sp, .int .i64 sl, .int .i64 an]).alloc (.cells #[.int .i64 kind, .int .i64 seq, .int .i64 epoch, .int .i64 at_, .int .i64 of_, .int .i64 zone, .int .i64 what, .slice a bytes.length c] 76)
  have hT := Blk.new (w.alloc (.cells #[.int .i64 z, .int .i64 d, .int .i64 sp, .int .i64 sl, .int .i64 an] 23)) 76 #[.int .i64 kind, .int .i64 seq, .int .i64 epoch, .int .i64 at_, .int .i64 of_, .int .i64 zone, .int .i64 what, .slice a bytes.length c]
  simp only [World.size_alloc] at hT
  have hbe := Lib.hid (behind_any ⟨z, d, sp, sl, an⟩ ⟨kind, seq, epoch, at_, of_, ⟨zone, what, bytes⟩⟩ (.slice a bytes.length c) _ Mi (h.mono (Keep.below hb2)) hl)
  have HB := Lib.hid hb2
  have HG := Lib.hid hG
  have HT := Lib.hid hT
  have H := Lib.hid h.bare
  clear hb1 hb2 hG hT h
  have hgc := fun w => gcheck_any ⟨z, d, sp, sl, an⟩ w
  simp only at hk
  subst hk
  have hV : behV ⟨0, seq, epoch, at_, of_, ⟨zone, what, bytes⟩⟩ (.slice a bytes.length c) = .nilIface := by simp [behV]
  have hO := Lib.hid hok
  simp only [okR, Bool.and_eq_true] at hok
  rw [hV, hok.2] at hbe
  rw [hok.1] at hgc
  unfold gv rv at hbe ⊢
  unfold gv errV at hgc
  simp only [if_true] at hbe hgc ⊢
  clear hV hok
  have hfit := Lib.hid (rec_fits hO.out)
  obtain ⟨BR, hBR⟩ : ∃ BR, BR = rowB (numsOf ⟨0, seq, epoch, at_, of_, ⟨zone, what, bytes⟩⟩) szR := ⟨_, rfl⟩
  have HBR := Lib.hid hBR
  clear hBR
  go_enter Tryz.func79, Tryz.ntmps79
  go_wp2_with fail
  ((with_reducible refine hbe.out.mono ?_); rintro e w1 ⟨rfl, hB1⟩)
  obtain ⟨g1, g2, g3⟩ := (HG.out.below hB1).all
  have HB1 := Lib.hid (HB.out.trans (hB1.mono HB.out.size))
  have HT1 := Lib.hid (HT.out.below hB1)
  clear hB1
  go_wp2_with fail
  ((with_reducible refine (hgc _).mono ?_); rintro e w2 ⟨rfl, hB2⟩)
  clear g1 g2 g3
  have HB2 := Lib.hid (HB1.out.trans (hB2.mono HB1.out.size))
  have HT2 := Lib.hid (HT1.out.below hB2)
  clear hB2
  have hS := Lib.hid (show ∀ i, w2.drew.cell? ⟨w.heap.size + 1, i, none⟩ = #[.int .i64 0, .int .i64 seq, .int .i64 epoch, .int .i64 at_, .int .i64 of_, .int .i64 zone, .int .i64 what, .slice a bytes.length c][i]? from HT2.out.drew.cell)
  go_wp2_with fail
  refine rp_enter [1, 3, 5, 7, 9] (fun W => ∀ i, W.cell? ⟨w.heap.size + 1, i, none⟩ = #[.int .i64 0, .int .i64 seq, .int .i64 epoch, .int .i64 at_, .int .i64 of_, .int .i64 zone, .int .i64 what, .slice a bytes.length c][i]?) (by kernel_rfl) ?_
  apply rp_pure 0 rfl (by kernel_rfl) (fun _ _ _ h => h) rfl
  · (intro W; go_simp; try rfl)
  · (go_simp; try rfl)
  apply rp_take 1 rfl (by kernel_rfl) (fun _ _ _ h => h) (hS.out) rfl
  · (rintro W hW; go_simp; try rfl)
  · (go_simp; try rfl)
  apply rp_pure 2 rfl (by kernel_rfl) (fun _ _ _ h => h) rfl
  · (intro W; go_simp; try rfl)
  · (go_simp; try rfl)
  apply rp_take 3 rfl (by kernel_rfl) (fun _ _ _ h => h) (hS.out) rfl
  · (rintro W hW; go_simp; try rfl)
  · (go_simp; try rfl)
  apply rp_pure 4 rfl (by kernel_rfl) (fun _ _ _ h => h) rfl
  · (intro W; go_simp; try rfl)
  · (go_simp; try rfl)
  apply rp_take 5 rfl (by kernel_rfl) (fun _ _ _ h => h) (hS.out) rfl
  · (rintro W hW; go_simp; try rfl)
  · (go_simp; try rfl)
  apply rp_pure 6 rfl (by kernel_rfl) (fun _ _ _ h => h) rfl
  · (intro W; go_simp; try rfl)
  · (go_simp; try rfl)
  apply rp_take 7 rfl (by kernel_rfl) (fun _ _ _ h => h) (hS.out) rfl
  · (rintro W hW; go_simp; try rfl)
  · (go_simp; try rfl)
  apply rp_pure 8 rfl (by kernel_rfl) (fun _ _ _ h => h) rfl
  · (intro W; go_simp; try rfl)
  · (go_simp; try rfl)
  apply rp_take 9 rfl (by kernel_rfl) (fun _ _ _ h => h) (hS.out) rfl
  · (rintro W hW; go_simp; try rfl)
  · (go_simp; try rfl)
  refine rp_two 10 11 (by kernel_rfl) rfl rfl (fun K hK => ?_) (fun K hK => ?_)
  · go_simp
    have hx1 := ((Below.refl w2.heap.size w2).alloc (Nat.le_refl _) (.cells #[.int .i64 0, .int .i64 seq, .int .i64 epoch, .int .i64 at_, .int .i64 of_] 3))
    have hx2 := hx1.alloc (by simp) (.cells #[.int .i64 1, .int .i64 4, .int .i64 4, .int .i64 1, .int .i64 1] 3)
    refine hK _ _ ⟨fun _ _ => (HT2.out.below hx1.drew).cell, ?_⟩; clear hK K
    refine rp_only 11 (by kernel_rfl) rfl (fun K hK => ?_)
    go_simp
    refine (sizes_any _).mono ?_
    rintro e w3 ⟨rfl, rfl⟩
    go_simp
    refine hK _ _ ⟨fun _ _ => (HT2.out.below hx2.drew).cell, ?_⟩; clear hK K
    refine rp_only 12 (by kernel_rfl) rfl (fun K hK => ?_)
    go_simp
    have hrow := Lib.hid (row_any (.slice (some ⟨w2.heap.size, 0, none⟩) 5 5) (.slice (some ⟨w2.heap.size + 1, 0, none⟩) 5 5) (numsOf ⟨0, seq, epoch, at_, of_, ⟨zone, what, bytes⟩⟩) szR (((w2.alloc (.cells #[.int .i64 0, .int .i64 seq, .int .i64 epoch, .int .i64 at_, .int .i64 of_] 3)).alloc (.cells #[.int .i64 1, .int .i64 4, .int .i64 4, .int .i64 1, .int .i64 1] 3)).drew) noM noM noM
      ((((OwR.litI w2 noM (numsOf ⟨0, seq, epoch, at_, of_, ⟨zone, what, bytes⟩⟩) (by simp [numsOf])).alloc (.cells #[.int .i64 1, .int .i64 4, .int .i64 4, .int .i64 1, .int .i64 1] 3)).drew).sl fun _ _ h => h)
      (((by simpa using OwR.litI (w2.alloc (.cells #[.int .i64 0, .int .i64 seq, .int .i64 epoch, .int .i64 at_, .int .i64 of_] 3)) noM szR (by simp)) : OwR ((w2.alloc (.cells #[.int .i64 0, .int .i64 seq, .int .i64 epoch, .int .i64 at_, .int .i64 of_] 3)).alloc (.cells #[.int .i64 1, .int .i64 4, .int .i64 4, .int .i64 1, .int .i64 1] 3)) noM (w2.heap.size + 1) 3 (.slice (some ⟨w2.heap.size + 1, 0, none⟩) 5 5) szR).drew.sl fun _ _ h => h) rfl (by simp [numsOf]) hfit.out)
    rw [← HBR.out] at hrow
    ((with_reducible refine hrow.out.mono ?_); rintro e w5 ⟨r5, rfl, ho5, hB5⟩)
    have HO5 := Lib.hid (And.intro (ho5.mono_base (base' := w.heap.size) (Nat.le_trans HB2.out.size hx2.drew.size)) (HB2.out.trans ((hx2.drew.trans (hB5.mono hx2.drew.size)).mono HB2.out.size)))
    have HT5 := Lib.hid ((HT2.out.below hx2.drew).below hB5)
    clear hrow ho5 hB5 hx1 hx2
    refine hK _ _ ⟨fun _ _ => HT5.out.cell, ?_⟩; clear hK K
    apply rp_pure 13 rfl (by kernel_rfl) (fun _ _ _ h => h) rfl
    · (intro W; go_simp; try rfl)
    · (go_simp; try rfl)
    apply rp_pure 14 rfl (by kernel_rfl) (fun _ _ _ h => h) rfl
    · (intro W; go_simp; try rfl)
    · (go_simp; try rfl)
    apply rp_pure 15 rfl (by kernel_rfl) (fun _ _ _ h => h) rfl
    · (intro W; go_simp; try rfl)
    · (go_simp; try rfl)
    apply rp_pure 16 rfl (by kernel_rfl) (fun _ _ _ h => h) rfl
    · (intro W; go_simp; try rfl)
    · (go_simp; try rfl)
    apply rp_pure 17 rfl (by kernel_rfl) (fun _ _ _ h => h) rfl
    · (intro W; go_simp; try rfl)
    · (go_simp; try rfl)
    refine rp_done (by kernel_rfl) ?_
    go_wp2
    go_ret2
    refine ⟨.inl ⟨hO.out, _, rfl, ?_⟩, HO5.out.2.trans (((Below.refl w5.heap.size w5).alloc (Nat.le_refl _) _).mono HO5.out.2.size)⟩
    have hf := HO5.out.1.alloc (.cells #[] 153)
    rw [HBR.out] at hf
    simpa [recB] using hf
  · go_simp
    refine (sizes_any _).mono ?_
    rintro e w3 ⟨rfl, rfl⟩
    go_simp
    have hx1 := ((Below.refl w2.heap.size w2).alloc (Nat.le_refl _) (.cells #[.int .i64 1, .int .i64 4, .int .i64 4, .int .i64 1, .int .i64 1] 3))
    have hx2 := hx1.alloc (by simp) (.cells #[.int .i64 0, .int .i64 seq, .int .i64 epoch, .int .i64 at_, .int .i64 of_] 3)
    refine hK _ _ ⟨fun _ _ => (HT2.out.below hx1.drew).cell, ?_⟩; clear hK K
    refine rp_only 10 (by kernel_rfl) rfl (fun K hK => ?_)
    go_simp
    refine hK _ _ ⟨fun _ _ => (HT2.out.below hx2.drew).cell, ?_⟩; clear hK K
    refine rp_only 12 (by kernel_rfl) rfl (fun K hK => ?_)
    go_simp
    have hrow := Lib.hid (row_any (.slice (some ⟨w2.heap.size + 1, 0, none⟩) 5 5) (.slice (some ⟨w2.heap.size, 0, none⟩) 5 5) (numsOf ⟨0, seq, epoch, at_, of_, ⟨zone, what, bytes⟩⟩) szR (((w2.alloc (.cells #[.int .i64 1, .int .i64 4, .int .i64 4, .int .i64 1, .int .i64 1] 3)).alloc (.cells #[.int .i64 0, .int .i64 seq, .int .i64 epoch, .int .i64 at_, .int .i64 of_] 3)).drew) noM noM noM
      (((by simpa [numsOf] using OwR.litI (w2.alloc (.cells #[.int .i64 1, .int .i64 4, .int .i64 4, .int .i64 1, .int .i64 1] 3)) noM (numsOf ⟨0, seq, epoch, at_, of_, ⟨zone, what, bytes⟩⟩) (by simp [numsOf])) : OwR ((w2.alloc (.cells #[.int .i64 1, .int .i64 4, .int .i64 4, .int .i64 1, .int .i64 1] 3)).alloc (.cells #[.int .i64 0, .int .i64 seq, .int .i64 epoch, .int .i64 at_, .int .i64 of_] 3)) noM (w2.heap.size + 1) 3 (.slice (some ⟨w2.heap.size + 1, 0, none⟩) 5 5) (numsOf ⟨0, seq, epoch, at_, of_, ⟨zone, what, bytes⟩⟩)).drew.sl fun _ _ h => h)
      ((((OwR.litI w2 noM szR (by simp)).alloc (.cells #[.int .i64 0, .int .i64 seq, .int .i64 epoch, .int .i64 at_, .int .i64 of_] 3)).drew).sl fun _ _ h => h) rfl (by simp [numsOf]) hfit.out)
    rw [← HBR.out] at hrow
    ((with_reducible refine hrow.out.mono ?_); rintro e w5 ⟨r5, rfl, ho5, hB5⟩)
    have HO5 := Lib.hid (And.intro (ho5.mono_base (base' := w.heap.size) (Nat.le_trans HB2.out.size hx2.drew.size)) (HB2.out.trans ((hx2.drew.trans (hB5.mono hx2.drew.size)).mono HB2.out.size)))
    have HT5 := Lib.hid ((HT2.out.below hx2.drew).below hB5)
    clear hrow ho5 hB5 hx1 hx2
    refine hK _ _ ⟨fun _ _ => HT5.out.cell, ?_⟩; clear hK K
    apply rp_pure 13 rfl (by kernel_rfl) (fun _ _ _ h => h) rfl
    · (intro W; go_simp; try rfl)
    · (go_simp; try rfl)
    apply rp_pure 14 rfl (by kernel_rfl) (fun _ _ _ h => h) rfl
    · (intro W; go_simp; try rfl)
    · (go_simp; try rfl)
    apply rp_pure 15 rfl (by kernel_rfl) (fun _ _ _ h => h) rfl
    · (intro W; go_simp; try rfl)
    · (go_simp; try rfl)
    apply rp_pure 16 rfl (by kernel_rfl) (fun _ _ _ h => h) rfl
    · (intro W; go_simp; try rfl)
    · (go_simp; try rfl)
    apply rp_pure 17 rfl (by kernel_rfl) (fun _ _ _ h => h) rfl
    · (intro W; go_simp; try rfl)
    · (go_simp; try rfl)
    refine rp_done (by kernel_rfl) ?_
    go_wp2
    go_ret2
    refine ⟨.inl ⟨hO.out, _, rfl, ?_⟩, HO5.out.2.trans (((Below.refl w5.heap.size w5).alloc (Nat.le_refl _) _).mono HO5.out.2.size)⟩
    have hf := HO5.out.1.alloc (.cells #[] 153)
    rw [HBR.out] at hf
    simpa [recB] using hf
set_option maxRecDepth 100000 in
set_option maxHeartbeats 16000000 in
theorem rbytes_2 (g : Geo) (r : Rc) (v : Value) (w : World) (Mi : Ms) (h : SlR w Mi v r.img.bytes) (hl : r.img.bytes.length ≤ 100000) (hok : okR g r = true) (hk : r.kind = 2) :
    Calls Tryz.prog 79 #[gv g, rv r v] w fun e w' => RbytesP w' w.heap.size g r e ∧ Below w.heap.size w w' := by
  obtain ⟨kind, seq, epoch, at_, of_, ⟨zone, what, bytes⟩⟩ := r
  obtain ⟨z, d, sp, sl, an⟩ := g
  simp only at h hl
  obtain ⟨a, c, rfl⟩ := h.form
  have hb1 := (Below.refl w.heap.size w).alloc (Nat.le_refl _) (.cells #[.int .i64 z, .int .i64 d, .int .i64 sp, .int .i64 sl, .int .i64 an] 23)
  have hb2 := hb1.alloc (by simp) (.cells #[.int .i64 kind, .int .i64 seq, .int .i64 epoch, .int .i64 at_, .int .i64 of_, .int .i64 zone, .int .i64 what, .slice a bytes.length c] 76)
  have hG := (Blk.new w 23 #[.int .i64 z, .int .i64 d, .int .i64 sp, .int .i64 sl, .int .i64 an]).alloc (.cells #[.int .i64 kind, .int .i64 seq, .int .i64 epoch, .int .i64 at_, .int .i64 of_, .int .i64 zone, .int .i64 what, .slice a bytes.length c] 76)
  have hT := Blk.new (w.alloc (.cells #[.int .i64 z, .int .i64 d, .int .i64 sp, .int .i64 sl, .int .i64 an] 23)) 76 #[.int .i64 kind, .int .i64 seq, .int .i64 epoch, .int .i64 at_, .int .i64 of_, .int .i64 zone, .int .i64 what, .slice a bytes.length c]
  simp only [World.size_alloc] at hT
  have hbe := Lib.hid (behind_any ⟨z, d, sp, sl, an⟩ ⟨kind, seq, epoch, at_, of_, ⟨zone, what, bytes⟩⟩ (.slice a bytes.length c) _ Mi (h.mono (Keep.below hb2)) hl)
  have HB := Lib.hid hb2
  have HG := Lib.hid hG
  have HT := Lib.hid hT
  have H := Lib.hid h.bare
  clear hb1 hb2 hG hT h
  have hgc := fun w => gcheck_any ⟨z, d, sp, sl, an⟩ w
  simp only at hk
  subst hk
  have hV : behV ⟨2, seq, epoch, at_, of_, ⟨zone, what, bytes⟩⟩ (.slice a bytes.length c) = .iface 153 (.agg #[]) := by simp [behV]
  have hO := Lib.hid hok
  simp only [okR, Bool.and_eq_true] at hok
  rw [hV, hok.2] at hbe
  rw [hok.1] at hgc
  unfold gv rv at hbe ⊢
  unfold gv errV at hgc
  simp only [if_true] at hbe hgc ⊢
  clear hV hok
  have hfit := Lib.hid (rec_fits hO.out)
  obtain ⟨BR, hBR⟩ : ∃ BR, BR = rowB (numsOf ⟨2, seq, epoch, at_, of_, ⟨zone, what, bytes⟩⟩) szR := ⟨_, rfl⟩
  have HBR := Lib.hid hBR
  clear hBR
  go_enter Tryz.func79, Tryz.ntmps79
  go_wp2_with fail
  ((with_reducible refine hbe.out.mono ?_); rintro e w1 ⟨rfl, hB1⟩)
  obtain ⟨g1, g2, g3⟩ := (HG.out.below hB1).all
  have HB1 := Lib.hid (HB.out.trans (hB1.mono HB.out.size))
  have HT1 := Lib.hid (HT.out.below hB1)
  clear hB1
  go_wp2_with fail
  ((with_reducible refine (hgc _).mono ?_); rintro e w2 ⟨rfl, hB2⟩)
  clear g1 g2 g3
  have HB2 := Lib.hid (HB1.out.trans (hB2.mono HB1.out.size))
  have HT2 := Lib.hid (HT1.out.below hB2)
  clear hB2
  have hS := Lib.hid (show ∀ i, w2.drew.cell? ⟨w.heap.size + 1, i, none⟩ = #[.int .i64 2, .int .i64 seq, .int .i64 epoch, .int .i64 at_, .int .i64 of_, .int .i64 zone, .int .i64 what, .slice a bytes.length c][i]? from HT2.out.drew.cell)
  go_wp2_with fail
  refine rp_enter [1, 3, 5, 7, 9] (fun W => ∀ i, W.cell? ⟨w.heap.size + 1, i, none⟩ = #[.int .i64 2, .int .i64 seq, .int .i64 epoch, .int .i64 at_, .int .i64 of_, .int .i64 zone, .int .i64 what, .slice a bytes.length c][i]?) (by kernel_rfl) ?_
  apply rp_pure 0 rfl (by kernel_rfl) (fun _ _ _ h => h) rfl
  · (intro W; go_simp; try rfl)
  · (go_simp; try rfl)
  apply rp_take 1 rfl (by kernel_rfl) (fun _ _ _ h => h) (hS.out) rfl
  · (rintro W hW; go_simp; try rfl)
  · (go_simp; try rfl)
  apply rp_pure 2 rfl (by kernel_rfl) (fun _ _ _ h => h) rfl
  · (intro W; go_simp; try rfl)
  · (go_simp; try rfl)
  apply rp_take 3 rfl (by kernel_rfl) (fun _ _ _ h => h) (hS.out) rfl
  · (rintro W hW; go_simp; try rfl)
  · (go_simp; try rfl)
  apply rp_pure 4 rfl (by kernel_rfl) (fun _ _ _ h => h) rfl
  · (intro W; go_simp; try rfl)
  · (go_simp; try rfl)
  apply rp_take 5 rfl (by kernel_rfl) (fun _ _ _ h => h) (hS.out) rfl
  · (rintro W hW; go_simp; try rfl)
  · (go_simp; try rfl)
  apply rp_pure 6 rfl (by kernel_rfl) (fun _ _ _ h => h) rfl
  · (intro W; go_simp; try rfl)
  · (go_simp; try rfl)
  apply rp_take 7 rfl (by kernel_rfl) (fun _ _ _ h => h) (hS.out) rfl
  · (rintro W hW; go_simp; try rfl)
  · (go_simp; try rfl)
  apply rp_pure 8 rfl (by kernel_rfl) (fun _ _ _ h => h) rfl
  · (intro W; go_simp; try rfl)
  · (go_simp; try rfl)
  apply rp_take 9 rfl (by kernel_rfl) (fun _ _ _ h => h) (hS.out) rfl
  · (rintro W hW; go_simp; try rfl)
  · (go_simp; try rfl)
  refine rp_two 10 11 (by kernel_rfl) rfl rfl (fun K hK => ?_) (fun K hK => ?_)
  · go_simp
    have hx1 := ((Below.refl w2.heap.size w2).alloc (Nat.le_refl _) (.cells #[.int .i64 2, .int .i64 seq, .int .i64 epoch, .int .i64 at_, .int .i64 of_] 3))
    have hx2 := hx1.alloc (by simp) (.cells #[.int .i64 1, .int .i64 4, .int .i64 4, .int .i64 1, .int .i64 1] 3)
    refine hK _ _ ⟨fun _ _ => (HT2.out.below hx1.drew).cell, ?_⟩; clear hK K
    refine rp_only 11 (by kernel_rfl) rfl (fun K hK => ?_)
    go_simp
    refine (sizes_any _).mono ?_
    rintro e w3 ⟨rfl, rfl⟩
    go_simp
    refine hK _ _ ⟨fun _ _ => (HT2.out.below hx2.drew).cell, ?_⟩; clear hK K
    refine rp_only 12 (by kernel_rfl) rfl (fun K hK => ?_)
    go_simp
    have hrow := Lib.hid (row_any (.slice (some ⟨w2.heap.size, 0, none⟩) 5 5) (.slice (some ⟨w2.heap.size + 1, 0, none⟩) 5 5) (numsOf ⟨2, seq, epoch, at_, of_, ⟨zone, what, bytes⟩⟩) szR (((w2.alloc (.cells #[.int .i64 2, .int .i64 seq, .int .i64 epoch, .int .i64 at_, .int .i64 of_] 3)).alloc (.cells #[.int .i64 1, .int .i64 4, .int .i64 4, .int .i64 1, .int .i64 1] 3)).drew) noM noM noM
      ((((OwR.litI w2 noM (numsOf ⟨2, seq, epoch, at_, of_, ⟨zone, what, bytes⟩⟩) (by simp [numsOf])).alloc (.cells #[.int .i64 1, .int .i64 4, .int .i64 4, .int .i64 1, .int .i64 1] 3)).drew).sl fun _ _ h => h)
      (((by simpa using OwR.litI (w2.alloc (.cells #[.int .i64 2, .int .i64 seq, .int .i64 epoch, .int .i64 at_, .int .i64 of_] 3)) noM szR (by simp)) : OwR ((w2.alloc (.cells #[.int .i64 2, .int .i64 seq, .int .i64 epoch, .int .i64 at_, .int .i64 of_] 3)).alloc (.cells #[.int .i64 1, .int .i64 4, .int .i64 4, .int .i64 1, .int .i64 1] 3)) noM (w2.heap.size + 1) 3 (.slice (some ⟨w2.heap.size + 1, 0, none⟩) 5 5) szR).drew.sl fun _ _ h => h) rfl (by simp [numsOf]) hfit.out)
    rw [← HBR.out] at hrow
    ((with_reducible refine hrow.out.mono ?_); rintro e w5 ⟨r5, rfl, ho5, hB5⟩)
    have HO5 := Lib.hid (And.intro (ho5.mono_base (base' := w.heap.size) (Nat.le_trans HB2.out.size hx2.drew.size)) (HB2.out.trans ((hx2.drew.trans (hB5.mono hx2.drew.size)).mono HB2.out.size)))
    have HT5 := Lib.hid ((HT2.out.below hx2.drew).below hB5)
    clear hrow ho5 hB5 hx1 hx2
    refine hK _ _ ⟨fun _ _ => HT5.out.cell, ?_⟩; clear hK K
    apply rp_pure 13 rfl (by kernel_rfl) (fun _ _ _ h => h) rfl
    · (intro W; go_simp; try rfl)
    · (go_simp; try rfl)
    apply rp_pure 14 rfl (by kernel_rfl) (fun _ _ _ h => h) rfl
    · (intro W; go_simp; try rfl)
    · (go_simp; try rfl)
    apply rp_pure 15 rfl (by kernel_rfl) (fun _ _ _ h => h) rfl
    · (intro W; go_simp; try rfl)
    · (go_simp; try rfl)
    apply rp_pure 16 rfl (by kernel_rfl) (fun _ _ _ h => h) rfl
    · (intro W; go_simp; try rfl)
    · (go_simp; try rfl)
    apply rp_pure 17 rfl (by kernel_rfl) (fun _ _ _ h => h) rfl
    · (intro W; go_simp; try rfl)
    · (go_simp; try rfl)
    refine rp_done (by kernel_rfl) ?_
    go_wp2
    go_ret2
    refine ⟨.inl ⟨hO.out, _, rfl, ?_⟩, HO5.out.2.trans (((Below.refl w5.heap.size w5).alloc (Nat.le_refl _) _).mono HO5.out.2.size)⟩
    have hf := HO5.out.1.alloc (.cells #[] 153)
    rw [HBR.out] at hf
    simpa [recB] using hf
  · go_simp
    refine (sizes_any _).mono ?_
    rintro e w3 ⟨rfl, rfl⟩
    go_simp
    have hx1 := ((Below.refl w2.heap.size w2).alloc (Nat.le_refl _) (.cells #[.int .i64 1, .int .i64 4, .int .i64 4, .int .i64 1, .int .i64 1] 3))
    have hx2 := hx1.alloc (by simp) (.cells #[.int .i64 2, .int .i64 seq, .int .i64 epoch, .int .i64 at_, .int .i64 of_] 3)
    refine hK _ _ ⟨fun _ _ => (HT2.out.below hx1.drew).cell, ?_⟩; clear hK K
    refine rp_only 10 (by kernel_rfl) rfl (fun K hK => ?_)
    go_simp
    refine hK _ _ ⟨fun _ _ => (HT2.out.below hx2.drew).cell, ?_⟩; clear hK K
    refine rp_only 12 (by kernel_rfl) rfl (fun K hK => ?_)
    go_simp
    have hrow := Lib.hid (row_any (.slice (some ⟨w2.heap.size + 1, 0, none⟩) 5 5) (.slice (some ⟨w2.heap.size, 0, none⟩) 5 5) (numsOf ⟨2, seq, epoch, at_, of_, ⟨zone, what, bytes⟩⟩) szR (((w2.alloc (.cells #[.int .i64 1, .int .i64 4, .int .i64 4, .int .i64 1, .int .i64 1] 3)).alloc (.cells #[.int .i64 2, .int .i64 seq, .int .i64 epoch, .int .i64 at_, .int .i64 of_] 3)).drew) noM noM noM
      (((by simpa [numsOf] using OwR.litI (w2.alloc (.cells #[.int .i64 1, .int .i64 4, .int .i64 4, .int .i64 1, .int .i64 1] 3)) noM (numsOf ⟨2, seq, epoch, at_, of_, ⟨zone, what, bytes⟩⟩) (by simp [numsOf])) : OwR ((w2.alloc (.cells #[.int .i64 1, .int .i64 4, .int .i64 4, .int .i64 1, .int .i64 1] 3)).alloc (.cells #[.int .i64 2, .int .i64 seq, .int .i64 epoch, .int .i64 at_, .int .i64 of_] 3)) noM (w2.heap.size + 1) 3 (.slice (some ⟨w2.heap.size + 1, 0, none⟩) 5 5) (numsOf ⟨2, seq, epoch, at_, of_, ⟨zone, what, bytes⟩⟩)).drew.sl fun _ _ h => h)
      ((((OwR.litI w2 noM szR (by simp)).alloc (.cells #[.int .i64 2, .int .i64 seq, .int .i64 epoch, .int .i64 at_, .int .i64 of_] 3)).drew).sl fun _ _ h => h) rfl (by simp [numsOf]) hfit.out)
    rw [← HBR.out] at hrow
    ((with_reducible refine hrow.out.mono ?_); rintro e w5 ⟨r5, rfl, ho5, hB5⟩)
    have HO5 := Lib.hid (And.intro (ho5.mono_base (base' := w.heap.size) (Nat.le_trans HB2.out.size hx2.drew.size)) (HB2.out.trans ((hx2.drew.trans (hB5.mono hx2.drew.size)).mono HB2.out.size)))
    have HT5 := Lib.hid ((HT2.out.below hx2.drew).below hB5)
    clear hrow ho5 hB5 hx1 hx2
    refine hK _ _ ⟨fun _ _ => HT5.out.cell, ?_⟩; clear hK K
    apply rp_pure 13 rfl (by kernel_rfl) (fun _ _ _ h => h) rfl
    · (intro W; go_simp; try rfl)
    · (go_simp; try rfl)
    apply rp_pure 14 rfl (by kernel_rfl) (fun _ _ _ h => h) rfl
    · (intro W; go_simp; try rfl)
    · (go_simp; try rfl)
    apply rp_pure 15 rfl (by kernel_rfl) (fun _ _ _ h => h) rfl
    · (intro W; go_simp; try rfl)
    · (go_simp; try rfl)
    apply rp_pure 16 rfl (by kernel_rfl) (fun _ _ _ h => h) rfl
    · (intro W; go_simp; try rfl)
    · (go_simp; try rfl)
    apply rp_pure 17 rfl (by kernel_rfl) (fun _ _ _ h => h) rfl
    · (intro W; go_simp; try rfl)
    · (go_simp; try rfl)
    refine rp_done (by kernel_rfl) ?_
    go_wp2
    go_ret2
    refine ⟨.inl ⟨hO.out, _, rfl, ?_⟩, HO5.out.2.trans (((Below.refl w5.heap.size w5).alloc (Nat.le_refl _) _).mono HO5.out.2.size)⟩
    have hf := HO5.out.1.alloc (.cells #[] 153)
    rw [HBR.out] at hf
    simpa [recB] using hf
set_option maxRecDepth 100000 in
set_option maxHeartbeats 16000000 in
theorem rbytes_1 (g : Geo) (r : Rc) (v : Value) (w : World) (Mi : Ms) (h : SlR w Mi v r.img.bytes) (hl : r.img.bytes.length ≤ 100000) (hok : okR g r = true) (hk : r.kind = 1) :
    Calls Tryz.prog 79 #[gv g, rv r v] w fun e w' => RbytesP w' w.heap.size g r e ∧ Below w.heap.size w w' := by
  obtain ⟨kind, seq, epoch, at_, of_, ⟨zone, what, bytes⟩⟩ := r
  obtain ⟨z, d, sp, sl, an⟩ := g
  simp only at h hl
  obtain ⟨a, c, rfl⟩ := h.form
  have hb1 := (Below.refl w.heap.size w).alloc (Nat.le_refl _) (.cells #[.int .i64 z, .int .i64 d, .int .i64 sp, .int .i64 sl, .int .i64 an] 23)
  have hb2 := hb1.alloc (by simp) (.cells #[.int .i64 kind, .int .i64 seq, .int .i64 epoch, .int .i64 at_, .int .i64 of_, .int .i64 zone, .int .i64 what, .slice a bytes.length c] 76)
  have hG := (Blk.new w 23 #[.int .i64 z, .int .i64 d, .int .i64 sp, .int .i64 sl, .int .i64 an]).alloc (.cells #[.int .i64 kind, .int .i64 seq, .int .i64 epoch, .int .i64 at_, .int .i64 of_, .int .i64 zone, .int .i64 what, .slice a bytes.length c] 76)
  have hT := Blk.new (w.alloc (.cells #[.int .i64 z, .int .i64 d, .int .i64 sp, .int .i64 sl, .int .i64 an] 23)) 76 #[.int .i64 kind, .int .i64 seq, .int .i64 epoch, .int .i64 at_, .int .i64 of_, .int .i64 zone, .int .i64 what, .slice a bytes.length c]
  simp only [World.size_alloc] at hT
  have hbe := Lib.hid (behind_any ⟨z, d, sp, sl, an⟩ ⟨kind, seq, epoch, at_, of_, ⟨zone, what, bytes⟩⟩ (.slice a bytes.length c) _ Mi (h.mono (Keep.below hb2)) hl)
  have HB := Lib.hid hb2
  have HG := Lib.hid hG
  have HT := Lib.hid hT
  have H := Lib.hid h.bare
  clear hb1 hb2 hG hT h
  have hgc := fun w => gcheck_any ⟨z, d, sp, sl, an⟩ w
  simp only at hk
  subst hk
  have hV : behV ⟨1, seq, epoch, at_, of_, ⟨zone, what, bytes⟩⟩ (.slice a bytes.length c) = .iface 156 (.agg #[.int .i64 zone, .int .i64 what, .slice a bytes.length c]) := by simp [behV]
  have hO := Lib.hid hok
  simp only [okR, Bool.and_eq_true] at hok
  rw [hV, hok.2] at hbe
  rw [hok.1] at hgc
  unfold gv rv at hbe ⊢
  unfold gv errV at hgc
  simp only [if_true] at hbe hgc ⊢
  clear hV hok
  have hfit := Lib.hid (rec_fits hO.out)
  obtain ⟨BR, hBR⟩ : ∃ BR, BR = rowB (numsOf ⟨1, seq, epoch, at_, of_, ⟨zone, what, bytes⟩⟩) szR := ⟨_, rfl⟩
  have HBR := Lib.hid hBR
  clear hBR
  go_enter Tryz.func79, Tryz.ntmps79
  go_wp2_with fail
  ((with_reducible refine hbe.out.mono ?_); rintro e w1 ⟨rfl, hB1⟩)
  obtain ⟨g1, g2, g3⟩ := (HG.out.below hB1).all
  have HB1 := Lib.hid (HB.out.trans (hB1.mono HB.out.size))
  have HT1 := Lib.hid (HT.out.below hB1)
  clear hB1
  go_wp2_with fail
  ((with_reducible refine (hgc _).mono ?_); rintro e w2 ⟨rfl, hB2⟩)
  clear g1 g2 g3
  have HB2 := Lib.hid (HB1.out.trans (hB2.mono HB1.out.size))
  have HT2 := Lib.hid (HT1.out.below hB2)
  clear hB2
  have hS := Lib.hid (show ∀ i, w2.drew.cell? ⟨w.heap.size + 1, i, none⟩ = #[.int .i64 1, .int .i64 seq, .int .i64 epoch, .int .i64 at_, .int .i64 of_, .int .i64 zone, .int .i64 what, .slice a bytes.length c][i]? from HT2.out.drew.cell)
  go_wp2_with fail
  refine rp_enter [1, 3, 5, 7, 9] (fun W => ∀ i, W.cell? ⟨w.heap.size + 1, i, none⟩ = #[.int .i64 1, .int .i64 seq, .int .i64 epoch, .int .i64 at_, .int .i64 of_, .int .i64 zone, .int .i64 what, .slice a bytes.length c][i]?) (by kernel_rfl) ?_
  apply rp_pure 0 rfl (by kernel_rfl) (fun _ _ _ h => h) rfl
  · (intro W; go_simp; try rfl)
  · (go_simp; try rfl)
  apply rp_take 1 rfl (by kernel_rfl) (fun _ _ _ h => h) (hS.out) rfl
  · (rintro W hW; go_simp; try rfl)
  · (go_simp; try rfl)
  apply rp_pure 2 rfl (by kernel_rfl) (fun _ _ _ h => h) rfl
  · (intro W; go_simp; try rfl)
  · (go_simp; try rfl)
  apply rp_take 3 rfl (by kernel_rfl) (fun _ _ _ h => h) (hS.out) rfl
  · (rintro W hW; go_simp; try rfl)
  · (go_simp; try rfl)
  apply rp_pure 4 rfl (by kernel_rfl) (fun _ _ _ h => h) rfl
  · (intro W; go_simp; try rfl)
  · (go_simp; try rfl)
  apply rp_take 5 rfl (by kernel_rfl) (fun _ _ _ h => h) (hS.out) rfl
  · (rintro W hW; go_simp; try rfl)
  · (go_simp; try rfl)
  apply rp_pure 6 rfl (by kernel_rfl) (fun _ _ _ h => h) rfl
  · (intro W; go_simp; try rfl)
  · (go_simp; try rfl)
  apply rp_take 7 rfl (by kernel_rfl) (fun _ _ _ h => h) (hS.out) rfl
  · (rintro W hW; go_simp; try rfl)
  · (go_simp; try rfl)
  apply rp_pure 8 rfl (by kernel_rfl) (fun _ _ _ h => h) rfl
  · (intro W; go_simp; try rfl)
  · (go_simp; try rfl)
  apply rp_take 9 rfl (by kernel_rfl) (fun _ _ _ h => h) (hS.out) rfl
  · (rintro W hW; go_simp; try rfl)
  · (go_simp; try rfl)
  refine rp_two 10 11 (by kernel_rfl) rfl rfl (fun K hK => ?_) (fun K hK => ?_)
  · go_simp
    have hx1 := ((Below.refl w2.heap.size w2).alloc (Nat.le_refl _) (.cells #[.int .i64 1, .int .i64 seq, .int .i64 epoch, .int .i64 at_, .int .i64 of_] 3))
    have hx2 := hx1.alloc (by simp) (.cells #[.int .i64 1, .int .i64 4, .int .i64 4, .int .i64 1, .int .i64 1] 3)
    refine hK _ _ ⟨fun _ _ => (HT2.out.below hx1.drew).cell, ?_⟩; clear hK K
    refine rp_only 11 (by kernel_rfl) rfl (fun K hK => ?_)
    go_simp
    refine (sizes_any _).mono ?_
    rintro e w3 ⟨rfl, rfl⟩
    go_simp
    refine hK _ _ ⟨fun _ _ => (HT2.out.below hx2.drew).cell, ?_⟩; clear hK K
    refine rp_only 12 (by kernel_rfl) rfl (fun K hK => ?_)
    go_simp
    have hrow := Lib.hid (row_any (.slice (some ⟨w2.heap.size, 0, none⟩) 5 5) (.slice (some ⟨w2.heap.size + 1, 0, none⟩) 5 5) (numsOf ⟨1, seq, epoch, at_, of_, ⟨zone, what, bytes⟩⟩) szR (((w2.alloc (.cells #[.int .i64 1, .int .i64 seq, .int .i64 epoch, .int .i64 at_, .int .i64 of_] 3)).alloc (.cells #[.int .i64 1, .int .i64 4, .int .i64 4, .int .i64 1, .int .i64 1] 3)).drew) noM noM noM
      ((((OwR.litI w2 noM (numsOf ⟨1, seq, epoch, at_, of_, ⟨zone, what, bytes⟩⟩) (by simp [numsOf])).alloc (.cells #[.int .i64 1, .int .i64 4, .int .i64 4, .int .i64 1, .int .i64 1] 3)).drew).sl fun _ _ h => h)
      (((by simpa using OwR.litI (w2.alloc (.cells #[.int .i64 1, .int .i64 seq, .int .i64 epoch, .int .i64 at_, .int .i64 of_] 3)) noM szR (by simp)) : OwR ((w2.alloc (.cells #[.int .i64 1, .int .i64 seq, .int .i64 epoch, .int .i64 at_, .int .i64 of_] 3)).alloc (.cells #[.int .i64 1, .int .i64 4, .int .i64 4, .int .i64 1, .int .i64 1] 3)) noM (w2.heap.size + 1) 3 (.slice (some ⟨w2.heap.size + 1, 0, none⟩) 5 5) szR).drew.sl fun _ _ h => h) rfl (by simp [numsOf]) hfit.out)
    rw [← HBR.out] at hrow
    ((with_reducible refine hrow.out.mono ?_); rintro e w5 ⟨r5, rfl, ho5, hB5⟩)
    have HO5 := Lib.hid (And.intro (ho5.mono_base (base' := w.heap.size) (Nat.le_trans HB2.out.size hx2.drew.size)) (HB2.out.trans ((hx2.drew.trans (hB5.mono hx2.drew.size)).mono HB2.out.size)))
    have HT5 := Lib.hid ((HT2.out.below hx2.drew).below hB5)
    clear hrow ho5 hB5 hx1 hx2
    refine hK _ _ ⟨fun _ _ => HT5.out.cell, ?_⟩; clear hK K
    apply rp_pure 13 rfl (by kernel_rfl) (fun _ _ _ h => h) rfl
    · (intro W; go_simp; try rfl)
    · (go_simp; try rfl)
    apply rp_pure 14 rfl (by kernel_rfl) (fun _ _ _ h => h) rfl
    · (intro W; go_simp; try rfl)
    · (go_simp; try rfl)
    apply rp_pure 15 rfl (by kernel_rfl) (fun _ _ _ h => h) rfl
    · (intro W; go_simp; try rfl)
    · (go_simp; try rfl)
    apply rp_pure 16 rfl (by kernel_rfl) (fun _ _ _ h => h) rfl
    · (intro W; go_simp; try rfl)
    · (go_simp; try rfl)
    apply rp_pure 17 rfl (by kernel_rfl) (fun _ _ _ h => h) rfl
    · (intro W; go_simp; try rfl)
    · (go_simp; try rfl)
    refine rp_done (by kernel_rfl) ?_
    have hA := (Below.refl w5.heap.size w5).alloc (Nat.le_refl _) (.cells #[] 153)
    have hAB := hA.alloc (by simp) (.cells #[.int .i64 zone, .int .i64 what, .slice a bytes.length c] 156)
    have hI := Blk.new (w5.alloc (.cells #[] 153)) 156 #[.int .i64 zone, .int .i64 what, .slice a bytes.length c]
    simp only [World.size_alloc] at hI
    have him : imgOk ⟨z, d, sp, sl, an⟩ ⟨zone, what, bytes⟩ = true := by
      rcases (okR_parts hO.out).2 with h | h | h
      · have h := h.1; simp at h
      · exact h.2.2.2.2.2
      · have h := h.1; simp at h
    have hsh := Lib.hid (img_short him)
    have hrl := row_lit [zone, whatB what] [1, 1] ((w5.alloc (.cells #[] 153)).alloc (.cells #[.int .i64 zone, .int .i64 what, .slice a bytes.length c] 156)) rfl (by simp) (img_fits him)
    obtain ⟨HD, hHD⟩ : ∃ HD, HD = rowB [zone, whatB what] [1, 1] := ⟨_, rfl⟩
    rw [← hHD] at hrl
    simp only [List.map_cons, List.map_nil, List.length_cons, List.length_nil, Nat.reduceAdd, World.size_alloc] at hrl
    have HLn := Lib.hid (And.intro (show HD.length = 2 by rw [hHD, tot_rowB [zone, whatB what] [1, 1] rfl]; rfl) (show BR.length = 11 by rw [HBR.out, rowR_len]))
    have HHD := Lib.hid hHD
    have HI := Lib.hid hI
    have HAB := Lib.hid hAB
    clear hA hAB hI him hHD
    by_cases hw : what = -1
    · subst hw
      rw [whatB_min] at hrl
      have hrl := Lib.hid hrl
      go_wp2_with fail
      ((with_reducible refine hrl.out.mono ?_); rintro e w6 ⟨r6, rfl, ho6, hB6⟩)
      obtain ⟨A6, C6, rfl⟩ := ho6.form
      obtain ⟨i1, i2, i3⟩ := (HI.out.below (by rw [World.size_alloc, World.size_alloc]; exact hB6)).all
      have HB6 := Lib.hid (HAB.out.trans (hB6.mono (by omega)))
      have HB06 := Lib.hid (HO5.out.2.trans (HB6.out.mono HO5.out.2.size))
      have HO6 := Lib.hid (ho6.mono_base (base' := w5.heap.size) (by omega))
      have hpt := Lib.hid (part_any (.slice a bytes.length c) bytes w6 noM noM (H.out.mono (Keep.below HB06.out)) (by have := hsh.out; omega))
      obtain ⟨PB, hPB⟩ : ∃ PB, PB = UInt8.ofNat bytes.length :: bytes := ⟨_, rfl⟩
      rw [← hPB] at hpt
      have hPl : PB.length = 1 + bytes.length := by rw [hPB, List.length_cons]; omega
      have HPB := Lib.hid (And.intro hPB hPl)
      clear hPB hPl hB6 ho6 hrl
      go_wp2_with fail
      ((with_reducible refine hpt.out.mono ?_); rintro e w7 ⟨r7, rfl, ho7, hB7⟩)
      obtain ⟨A7, C7, rfl⟩ := ho7.form
      have HB57 := Lib.hid (HB6.out.trans (hB7.mono HB6.out.size))
      have HB07 := Lib.hid (HO5.out.2.trans (HB57.out.mono HO5.out.2.size))
      have O5 := Lib.hid (HO5.out.1.below HB57.out)
      have O6 := HO6.out.below hB7
      have S6 := Lib.hid (show SlR w7 (fun b => noM b ∨ r5.ownBlock = some b) (.slice A6 HD.length C6) HD from (OwR.pl plU O6).sl' (fun b hb hm => hm.elim (fun h => h) (fun h => by have a1 := HO5.out.1.own_lt h; have a2 := O6.own_ge hb; omega)))
      have O7 := Lib.hid ho7
      have hl1 : BR.length + HD.length ≤ 1000000000 := by have := HLn.out; omega
      have hl2 : (BR ++ HD).length + PB.length ≤ 1000000000 := by have := HLn.out; have := HPB.out.2; have := hsh.out; rw [List.length_append]; omega
      clear O6 ho7 hB7 hpt i1 i2 i3
      have tok1 : True := trivial
      go_wp2_with (first | (at_builtin; have _t := tok1; go_must (refine wpList_append_R (α := UInt8) (M := noM) (base := w.heap.size) (l := BR) (m := HD) rfl (by rfl) tyB (by rfl) O5.out (by rfl) S6.out hl1 HB07.out.size ?_); clear tok1 _t; intro v8 w8 ho8 hg8 hat8; have HB8 := Lib.hid (HB07.out.grown hg8 HB07.out.size (fun b e => O5.out.own_ge e)); have O8 := Lib.hid ho8; have S7 := Lib.hid (app_src HO5.out.1 HB57.out O5.out O7.out (Nat.le_trans (Nat.le_refl _) HB6.out.size) hg8 hat8); clear hg8 hat8 ho8) | (at_builtin; go_must (refine wpList_append_R (α := UInt8) (M := noM) (base := w.heap.size) (l := BR ++ HD) (m := PB) rfl (by rfl) tyB (by rfl) O8.out (by rfl) S7.out hl2 HB8.out.size ?_); intro v9 w9 ho9 hg9 hat9))
      have HX := Lib.hid (And.intro ho9 (HB8.out.grown hg9 HB8.out.size (fun b e => O8.out.own_ge e)))
      clear ho9 hg9 hat9
      go_wp2
      go_ret2
      refine ⟨.inl ⟨hO.out, _, rfl, ?_⟩, HX.out.2⟩
      have hf := HX.out.1
      rw [HHD.out, HPB.out.1, HBR.out, List.append_assoc] at hf
      simpa [recB, imgB] using hf
    · rw [show whatB what = what from if_neg hw] at hrl
      have hrl := Lib.hid hrl
      have hw' : (what == -1) = false := by simpa using hw
      clear hw
      go_wp2_with fail
      ((with_reducible refine hrl.out.mono ?_); rintro e w6 ⟨r6, rfl, ho6, hB6⟩)
      obtain ⟨A6, C6, rfl⟩ := ho6.form
      obtain ⟨i1, i2, i3⟩ := (HI.out.below (by rw [World.size_alloc, World.size_alloc]; exact hB6)).all
      have HB6 := Lib.hid (HAB.out.trans (hB6.mono (by omega)))
      have HB06 := Lib.hid (HO5.out.2.trans (HB6.out.mono HO5.out.2.size))
      have HO6 := Lib.hid (ho6.mono_base (base' := w5.heap.size) (by omega))
      have hpt := Lib.hid (part_any (.slice a bytes.length c) bytes w6 noM noM (H.out.mono (Keep.below HB06.out)) (by have := hsh.out; omega))
      obtain ⟨PB, hPB⟩ : ∃ PB, PB = UInt8.ofNat bytes.length :: bytes := ⟨_, rfl⟩
      rw [← hPB] at hpt
      have hPl : PB.length = 1 + bytes.length := by rw [hPB, List.length_cons]; omega
      have HPB := Lib.hid (And.intro hPB hPl)
      clear hPB hPl hB6 ho6 hrl
      go_wp2_with fail
      ((with_reducible refine hpt.out.mono ?_); rintro e w7 ⟨r7, rfl, ho7, hB7⟩)
      obtain ⟨A7, C7, rfl⟩ := ho7.form
      have HB57 := Lib.hid (HB6.out.trans (hB7.mono HB6.out.size))
      have HB07 := Lib.hid (HO5.out.2.trans (HB57.out.mono HO5.out.2.size))
      have O5 := Lib.hid (HO5.out.1.below HB57.out)
      have O6 := HO6.out.below hB7
      have S6 := Lib.hid (show SlR w7 (fun b => noM b ∨ r5.ownBlock = some b) (.slice A6 HD.length C6) HD from (OwR.pl plU O6).sl' (fun b hb hm => hm.elim (fun h => h) (fun h => by have a1 := HO5.out.1.own_lt h; have a2 := O6.own_ge hb; omega)))
      have O7 := Lib.hid ho7
      have hl1 : BR.length + HD.length ≤ 1000000000 := by have := HLn.out; omega
      have hl2 : (BR ++ HD).length + PB.length ≤ 1000000000 := by have := HLn.out; have := HPB.out.2; have := hsh.out; rw [List.length_append]; omega
      clear O6 ho7 hB7 hpt i1 i2 i3
      have tok1 : True := trivial
      go_wp2_with (first | (at_builtin; have _t := tok1; go_must (refine wpList_append_R (α := UInt8) (M := noM) (base := w.heap.size) (l := BR) (m := HD) rfl (by rfl) tyB (by rfl) O5.out (by rfl) S6.out hl1 HB07.out.size ?_); clear tok1 _t; intro v8 w8 ho8 hg8 hat8; have HB8 := Lib.hid (HB07.out.grown hg8 HB07.out.size (fun b e => O5.out.own_ge e)); have O8 := Lib.hid ho8; have S7 := Lib.hid (app_src HO5.out.1 HB57.out O5.out O7.out (Nat.le_trans (Nat.le_refl _) HB6.out.size) hg8 hat8); clear hg8 hat8 ho8) | (at_builtin; go_must (refine wpList_append_R (α := UInt8) (M := noM) (base := w.heap.size) (l := BR ++ HD) (m := PB) rfl (by rfl) tyB (by rfl) O8.out (by rfl) S7.out hl2 HB8.out.size ?_); intro v9 w9 ho9 hg9 hat9))
      have HX := Lib.hid (And.intro ho9 (HB8.out.grown hg9 HB8.out.size (fun b e => O8.out.own_ge e)))
      clear ho9 hg9 hat9
      go_wp2
      go_ret2
      refine ⟨.inl ⟨hO.out, _, rfl, ?_⟩, HX.out.2⟩
      have hf := HX.out.1
      rw [HHD.out, HPB.out.1, HBR.out, List.append_assoc] at hf
      simpa [recB, imgB] using hf
  · go_simp
    refine (sizes_any _).mono ?_
    rintro e w3 ⟨rfl, rfl⟩
    go_simp
    have hx1 := ((Below.refl w2.heap.size w2).alloc (Nat.le_refl _) (.cells #[.int .i64 1, .int .i64 4, .int .i64 4, .int .i64 1, .int .i64 1] 3))
    have hx2 := hx1.alloc (by simp) (.cells #[.int .i64 1, .int .i64 seq, .int .i64 epoch, .int .i64 at_, .int .i64 of_] 3)
    refine hK _ _ ⟨fun _ _ => (HT2.out.below hx1.drew).cell, ?_⟩; clear hK K
    refine rp_only 10 (by kernel_rfl) rfl (fun K hK => ?_)
    go_simp
    refine hK _ _ ⟨fun _ _ => (HT2.out.below hx2.drew).cell, ?_⟩; clear hK K
    refine rp_only 12 (by kernel_rfl) rfl (fun K hK => ?_)
    go_simp
    have hrow := Lib.hid (row_any (.slice (some ⟨w2.heap.size + 1, 0, none⟩) 5 5) (.slice (some ⟨w2.heap.size, 0, none⟩) 5 5) (numsOf ⟨1, seq, epoch, at_, of_, ⟨zone, what, bytes⟩⟩) szR (((w2.alloc (.cells #[.int .i64 1, .int .i64 4, .int .i64 4, .int .i64 1, .int .i64 1] 3)).alloc (.cells #[.int .i64 1, .int .i64 seq, .int .i64 epoch, .int .i64 at_, .int .i64 of_] 3)).drew) noM noM noM
      (((by simpa [numsOf] using OwR.litI (w2.alloc (.cells #[.int .i64 1, .int .i64 4, .int .i64 4, .int .i64 1, .int .i64 1] 3)) noM (numsOf ⟨1, seq, epoch, at_, of_, ⟨zone, what, bytes⟩⟩) (by simp [numsOf])) : OwR ((w2.alloc (.cells #[.int .i64 1, .int .i64 4, .int .i64 4, .int .i64 1, .int .i64 1] 3)).alloc (.cells #[.int .i64 1, .int .i64 seq, .int .i64 epoch, .int .i64 at_, .int .i64 of_] 3)) noM (w2.heap.size + 1) 3 (.slice (some ⟨w2.heap.size + 1, 0, none⟩) 5 5) (numsOf ⟨1, seq, epoch, at_, of_, ⟨zone, what, bytes⟩⟩)).drew.sl fun _ _ h => h)
      ((((OwR.litI w2 noM szR (by simp)).alloc (.cells #[.int .i64 1, .int .i64 seq, .int .i64 epoch, .int .i64 at_, .int .i64 of_] 3)).drew).sl fun _ _ h => h) rfl (by simp [numsOf]) hfit.out)
    rw [← HBR.out] at hrow
    ((with_reducible refine hrow.out.mono ?_); rintro e w5 ⟨r5, rfl, ho5, hB5⟩)
    have HO5 := Lib.hid (And.intro (ho5.mono_base (base' := w.heap.size) (Nat.le_trans HB2.out.size hx2.drew.size)) (HB2.out.trans ((hx2.drew.trans (hB5.mono hx2.drew.size)).mono HB2.out.size)))
    have HT5 := Lib.hid ((HT2.out.below hx2.drew).below hB5)
    clear hrow ho5 hB5 hx1 hx2
    refine hK _ _ ⟨fun _ _ => HT5.out.cell, ?_⟩; clear hK K
    apply rp_pure 13 rfl (by kernel_rfl) (fun _ _ _ h => h) rfl
    · (intro W; go_simp; try rfl)
    · (go_simp; try rfl)
    apply rp_pure 14 rfl (by kernel_rfl) (fun _ _ _ h => h) rfl
    · (intro W; go_simp; try rfl)
    · (go_simp; try rfl)
    apply rp_pure 15 rfl (by kernel_rfl) (fun _ _ _ h => h) rfl
    · (intro W; go_simp; try rfl)
    · (go_simp; try rfl)
    apply rp_pure 16 rfl (by kernel_rfl) (fun _ _ _ h => h) rfl
    · (intro W; go_simp; try rfl)
    · (go_simp; try rfl)
    apply rp_pure 17 rfl (by kernel_rfl) (fun _ _ _ h => h) rfl
    · (intro W; go_simp; try rfl)
    · (go_simp; try rfl)
    refine rp_done (by kernel_rfl) ?_
    have hA := (Below.refl w5.heap.size w5).alloc (Nat.le_refl _) (.cells #[] 153)
    have hAB := hA.alloc (by simp) (.cells #[.int .i64 zone, .int .i64 what, .slice a bytes.length c] 156)
    have hI := Blk.new (w5.alloc (.cells #[] 153)) 156 #[.int .i64 zone, .int .i64 what, .slice a bytes.length c]
    simp only [World.size_alloc] at hI
    have him : imgOk ⟨z, d, sp, sl, an⟩ ⟨zone, what, bytes⟩ = true := by
      rcases (okR_parts hO.out).2 with h | h | h
      · have h := h.1; simp at h
      · exact h.2.2.2.2.2
      · have h := h.1; simp at h
    have hsh := Lib.hid (img_short him)
    have hrl := row_lit [zone, whatB what] [1, 1] ((w5.alloc (.cells #[] 153)).alloc (.cells #[.int .i64 zone, .int .i64 what, .slice a bytes.length c] 156)) rfl (by simp) (img_fits him)
    obtain ⟨HD, hHD⟩ : ∃ HD, HD = rowB [zone, whatB what] [1, 1] := ⟨_, rfl⟩
    rw [← hHD] at hrl
    simp only [List.map_cons, List.map_nil, List.length_cons, List.length_nil, Nat.reduceAdd, World.size_alloc] at hrl
    have HLn := Lib.hid (And.intro (show HD.length = 2 by rw [hHD, tot_rowB [zone, whatB what] [1, 1] rfl]; rfl) (show BR.length = 11 by rw [HBR.out, rowR_len]))
    have HHD := Lib.hid hHD
    have HI := Lib.hid hI
    have HAB := Lib.hid hAB
    clear hA hAB hI him hHD
    by_cases hw : what = -1
    · subst hw
      rw [whatB_min] at hrl
      have hrl := Lib.hid hrl
      go_wp2_with fail
      ((with_reducible refine hrl.out.mono ?_); rintro e w6 ⟨r6, rfl, ho6, hB6⟩)
      obtain ⟨A6, C6, rfl⟩ := ho6.form
      obtain ⟨i1, i2, i3⟩ := (HI.out.below (by rw [World.size_alloc, World.size_alloc]; exact hB6)).all
      have HB6 := Lib.hid (HAB.out.trans (hB6.mono (by omega)))
      have HB06 := Lib.hid (HO5.out.2.trans (HB6.out.mono HO5.out.2.size))
      have HO6 := Lib.hid (ho6.mono_base (base' := w5.heap.size) (by omega))
      have hpt := Lib.hid (part_any (.slice a bytes.length c) bytes w6 noM noM (H.out.mono (Keep.below HB06.out)) (by have := hsh.out; omega))
      obtain ⟨PB, hPB⟩ : ∃ PB, PB = UInt8.ofNat bytes.length :: bytes := ⟨_, rfl⟩
      rw [← hPB] at hpt
      have hPl : PB.length = 1 + bytes.length := by rw [hPB, List.length_cons]; omega
      have HPB := Lib.hid (And.intro hPB hPl)
      clear hPB hPl hB6 ho6 hrl
      go_wp2_with fail
      ((with_reducible refine hpt.out.mono ?_); rintro e w7 ⟨r7, rfl, ho7, hB7⟩)
      obtain ⟨A7, C7, rfl⟩ := ho7.form
      have HB57 := Lib.hid (HB6.out.trans (hB7.mono HB6.out.size))
      have HB07 := Lib.hid (HO5.out.2.trans (HB57.out.mono HO5.out.2.size))
      have O5 := Lib.hid (HO5.out.1.below HB57.out)
      have O6 := HO6.out.below hB7
      have S6 := Lib.hid (show SlR w7 (fun b => noM b ∨ r5.ownBlock = some b) (.slice A6 HD.length C6) HD from (OwR.pl plU O6).sl' (fun b hb hm => hm.elim (fun h => h) (fun h => by have a1 := HO5.out.1.own_lt h; have a2 := O6.own_ge hb; omega)))
      have O7 := Lib.hid ho7
      have hl1 : BR.length + HD.length ≤ 1000000000 := by have := HLn.out; omega
      have hl2 : (BR ++ HD).length + PB.length ≤ 1000000000 := by have := HLn.out; have := HPB.out.2; have := hsh.out; rw [List.length_append]; omega
      clear O6 ho7 hB7 hpt i1 i2 i3
      have tok1 : True := trivial
      go_wp2_with (first | (at_builtin; have _t := tok1; go_must (refine wpList_append_R (α := UInt8) (M := noM) (base := w.heap.size) (l := BR) (m := HD) rfl (by rfl) tyB (by rfl) O5.out (by rfl) S6.out hl1 HB07.out.size ?_); clear tok1 _t; intro v8 w8 ho8 hg8 hat8; have HB8 := Lib.hid (HB07.out.grown hg8 HB07.out.size (fun b e => O5.out.own_ge e)); have O8 := Lib.hid ho8; have S7 := Lib.hid (app_src HO5.out.1 HB57.out O5.out O7.out (Nat.le_trans (Nat.le_refl _) HB6.out.size) hg8 hat8); clear hg8 hat8 ho8) | (at_builtin; go_must (refine wpList_append_R (α := UInt8) (M := noM) (base := w.heap.size) (l := BR ++ HD) (m := PB) rfl (by rfl) tyB (by rfl) O8.out (by rfl) S7.out hl2 HB8.out.size ?_); intro v9 w9 ho9 hg9 hat9))
      have HX := Lib.hid (And.intro ho9 (HB8.out.grown hg9 HB8.out.size (fun b e => O8.out.own_ge e)))
      clear ho9 hg9 hat9
      go_wp2
      go_ret2
      refine ⟨.inl ⟨hO.out, _, rfl, ?_⟩, HX.out.2⟩
      have hf := HX.out.1
      rw [HHD.out, HPB.out.1, HBR.out, List.append_assoc] at hf
      simpa [recB, imgB] using hf
    · rw [show whatB what = what from if_neg hw] at hrl
      have hrl := Lib.hid hrl
      have hw' : (what == -1) = false := by simpa using hw
      clear hw
      go_wp2_with fail
      ((with_reducible refine hrl.out.mono ?_); rintro e w6 ⟨r6, rfl, ho6, hB6⟩)
      obtain ⟨A6, C6, rfl⟩ := ho6.form
      obtain ⟨i1, i2, i3⟩ := (HI.out.below (by rw [World.size_alloc, World.size_alloc]; exact hB6)).all
      have HB6 := Lib.hid (HAB.out.trans (hB6.mono (by omega)))
      have HB06 := Lib.hid (HO5.out.2.trans (HB6.out.mono HO5.out.2.size))
      have HO6 := Lib.hid (ho6.mono_base (base' := w5.heap.size) (by omega))
      have hpt := Lib.hid (part_any (.slice a bytes.length c) bytes w6 noM noM (H.out.mono (Keep.below HB06.out)) (by have := hsh.out; omega))
      obtain ⟨PB, hPB⟩ : ∃ PB, PB = UInt8.ofNat bytes.length :: bytes := ⟨_, rfl⟩
      rw [← hPB] at hpt
      have hPl : PB.length = 1 + bytes.length := by rw [hPB, List.length_cons]; omega
      have HPB := Lib.hid (And.intro hPB hPl)
      clear hPB hPl hB6 ho6 hrl
      go_wp2_with fail
      ((with_reducible refine hpt.out.mono ?_); rintro e w7 ⟨r7, rfl, ho7, hB7⟩)
      obtain ⟨A7, C7, rfl⟩ := ho7.form
      have HB57 := Lib.hid (HB6.out.trans (hB7.mono HB6.out.size))
      have HB07 := Lib.hid (HO5.out.2.trans (HB57.out.mono HO5.out.2.size))
      have O5 := Lib.hid (HO5.out.1.below HB57.out)
      have O6 := HO6.out.below hB7
      have S6 := Lib.hid (show SlR w7 (fun b => noM b ∨ r5.ownBlock = some b) (.slice A6 HD.length C6) HD from (OwR.pl plU O6).sl' (fun b hb hm => hm.elim (fun h => h) (fun h => by have a1 := HO5.out.1.own_lt h; have a2 := O6.own_ge hb; omega)))
      have O7 := Lib.hid ho7
      have hl1 : BR.length + HD.length ≤ 1000000000 := by have := HLn.out; omega
      have hl2 : (BR ++ HD).length + PB.length ≤ 1000000000 := by have := HLn.out; have := HPB.out.2; have := hsh.out; rw [List.length_append]; omega
      clear O6 ho7 hB7 hpt i1 i2 i3
      have tok1 : True := trivial
      go_wp2_with (first | (at_builtin; have _t := tok1; go_must (refine wpList_append_R (α := UInt8) (M := noM) (base := w.heap.size) (l := BR) (m := HD) rfl (by rfl) tyB (by rfl) O5.out (by rfl) S6.out hl1 HB07.out.size ?_); clear tok1 _t; intro v8 w8 ho8 hg8 hat8; have HB8 := Lib.hid (HB07.out.grown hg8 HB07.out.size (fun b e => O5.out.own_ge e)); have O8 := Lib.hid ho8; have S7 := Lib.hid (app_src HO5.out.1 HB57.out O5.out O7.out (Nat.le_trans (Nat.le_refl _) HB6.out.size) hg8 hat8); clear hg8 hat8 ho8) | (at_builtin; go_must (refine wpList_append_R (α := UInt8) (M := noM) (base := w.heap.size) (l := BR ++ HD) (m := PB) rfl (by rfl) tyB (by rfl) O8.out (by rfl) S7.out hl2 HB8.out.size ?_); intro v9 w9 ho9 hg9 hat9))
      have HX := Lib.hid (And.intro ho9 (HB8.out.grown hg9 HB8.out.size (fun b e => O8.out.own_ge e)))
      clear ho9 hg9 hat9
      go_wp2
      go_ret2
      refine ⟨.inl ⟨hO.out, _, rfl, ?_⟩, HX.out.2⟩
      have hf := HX.out.1
      rw [HHD.out, HPB.out.1, HBR.out, List.append_assoc] at hf
      simpa [recB, imgB] using hf
end Go.Proofs.YteecmgonbdbhdaaGreatDoor
end

/-
Package rec: an image read; a record's bytes, whatever record.
-/
section
namespace Go.Proofs.YteecmgonbdbhdaaGreatDoor
open Go.RowKit
attribute [local go_sem ↓] Go.wp_at_zero Go.wp_at_succ

theorem rbytes_any (g : Geo) (r : Rc) (v : Value) (w : World) (Mi : Ms) (h : SlR w Mi v r.img.bytes) (hl : r.img.bytes.length ≤ 100000) :
    Calls Tryz.prog 79 #[gv g, rv r v] w fun e w' => RbytesP w' w.heap.size g r e ∧ Below w.heap.size w w' := by
  cases hok : okR g r with
  | false => exact rbytes_no g r v w Mi h hl hok
  | true =>
    rcases (okR_parts hok).2 with hk | hk | hk
    · exact rbytes_0 g r v w Mi h hl hok hk.1
    · exact rbytes_1 g r v w Mi h hl hok hk.1
    · exact rbytes_2 g r v w Mi h hl hok hk.1

def whatN (n : Int) : Int := if n = 254 then -1 else n
def shownOk (b : List UInt8) : Bool := decide (2 ≤ b.length) && partOk (b.drop 2)
/-- The image that bytes are. -/
def imgOf (b : List UInt8) : Img := ⟨(nums [1, 1] b).getD 0 0, whatN ((nums [1, 1] b).getD 1 0), ((b.drop 2).drop 1).take (partN (b.drop 2))⟩
def ShownP (w' : World) (base : Nat) (b : List UInt8) (e : Ending) : Prop :=
  (shownOk b = true ∧ ∃ v, e = .returned (.tuple #[.agg #[.int .i64 (imgOf b).zone, .int .i64 (imgOf b).what, v], .int .i64 0]) ∧ OwR w' noM base 5 v (imgOf b).bytes) ∨
  (shownOk b = false ∧ ∃ x y, e = .returned (.tuple #[.agg #[.int .i64 x, .int .i64 y, .slice none 0 0], .int .i64 4]))
theorem st3_cells {w : World} {b : Nat} {t : TypeId} {a0 a1 a2 : Value} (h : Blk w b t #[a0, a1, a2]) (x y z : Value) (i : Nat) : (((w.setCell ⟨b, 0, none⟩ x).setCell ⟨b, 1, none⟩ y).setCell ⟨b, 2, none⟩ z).cell? ⟨b, i, none⟩ = #[x, y, z][i]? :=
  (((h.set_ 0 x).set_ 1 y).set_ 2 z).cell i
theorem OwR.int2 {w : World} {M : Ms} {base : Nat} {e : TypeId} {v : Value} {x y : Int} (h : OwR w M base e v [x, y]) : ∃ B c, v = .slice (some ⟨B, 0, none⟩) 2 c ∧ base ≤ B ∧ B < w.heap.size ∧ (∀ i, w.frozen? ⟨B, i, none⟩ = false) ∧ w.cell? ⟨B, 0, none⟩ = some (.int .i64 x) ∧ w.cell? ⟨B, 1, none⟩ = some (.int .i64 y) := by
  obtain ⟨B, c, cs, rfl, hb, -, hf, he, hc⟩ := h.at_ (k := 0) (by simp)
  obtain ⟨B1, c1, cs1, e1, -, -, -, he1, hc1⟩ := h.at_ (k := 1) (by simp)
  cases e1
  have he : cs = [.int .i64 x] := he
  have he1 : cs1 = [.int .i64 y] := he1
  subst he he1
  exact ⟨B, c, rfl, hb, World.block_lt_of_cell? _ _ (hc 0 _ rfl), hf, hc 0 _ rfl, hc1 0 _ rfl⟩

set_option maxRecDepth 100000 in
set_option maxHeartbeats 16000000 in
theorem shown_any (v : Value) (b : List UInt8) (w : World) (Mi : Ms) (h : SlR w Mi v b) (hl : b.length ≤ 100000) :
    Calls Tryz.prog 99 #[v] w fun e w' => ShownP w' w.heap.size b e ∧ Below w.heap.size w w' := by
  obtain ⟨a, c, rfl⟩ := h.form
  have hb1 := (Below.refl w.heap.size w).alloc (Nat.le_refl _) (.cells #[.int .i64 0, .int .i64 0, .slice none 0 0] 74)
  have hb2 := hb1.alloc (by simp) (.cells #[.int .i64 1, .int .i64 1] 3)
  have hR := (Blk.new w 74 #[.int .i64 0, .int .i64 0, .slice none 0 0]).alloc (.cells #[.int .i64 1, .int .i64 1] 3)
  have hs2 := (OwR.litI (w.alloc (.cells #[.int .i64 0, .int .i64 0, .slice none 0 0] 74)) noM [1, 1] (by simp)).sl (M := noM) (fun _ _ h => h)
  have hun := Lib.hid (unrow_any _ _ b [1, 1] _ noM noM (h.bare.mono (Keep.below hb2)) hs2 (by decide) (by omega) (by simp))
  simp only [List.length_cons, List.length_nil, Nat.reduceAdd, World.size_alloc] at hun
  have HB := Lib.hid hb2
  have HR := Lib.hid hR
  clear hb1 hb2 hR hs2 h
  go_enter Tryz.func99, Tryz.ntmps99
  go_wp2_with fail
  ((with_reducible refine hun.out.mono ?_); rintro e w1 ⟨hU, hB1⟩)
  have hB1 : Below ((w.alloc (.cells #[.int .i64 0, .int .i64 0, .slice none 0 0] 74)).alloc (.cells #[.int .i64 1, .int .i64 1] 3)).heap.size ((w.alloc (.cells #[.int .i64 0, .int .i64 0, .slice none 0 0] 74)).alloc (.cells #[.int .i64 1, .int .i64 1] 3)) w1 := by simpa using hB1
  have HB1 := Lib.hid (HB.out.trans (hB1.mono HB.out.size))
  have HR1 := Lib.hid (HR.out.below hB1)
  clear hB1 hun
  rcases hU with ⟨hfit, v1, v2, rfl, ho1, ho2⟩ | ⟨hfew, rfl⟩
  · have hT : tot [1, 1] = 2 := rfl
    rw [hT] at hfit ho2
    obtain ⟨a2, c2, rfl⟩ := ho2.form
    have hpt := Lib.hid (unpart_any _ (b.drop 2) w1 noM (ho2.sl (fun _ _ h => h)) (by rw [List.length_drop]; omega))
    obtain ⟨x, y, hxy⟩ : ∃ x y, nums [1, 1] b = [x, y] := ⟨_, _, rfl⟩
    rw [hxy] at ho1
    have HXY := Lib.hid hxy
    have HF := Lib.hid hfit
    obtain ⟨B, cB, rfl, hBB, hBlt, f1, y0, y1⟩ := ho1.int2
    have HBB := Lib.hid (show w.heap.size < B ∧ B < w1.heap.size ∧ w.heap.size < w1.heap.size from ⟨by omega, hBlt, by omega⟩)
    obtain ⟨R, hR⟩ : ∃ R, R = b.drop 2 := ⟨_, rfl⟩
    rw [← hR] at hpt
    have HRb := Lib.hid hR
    rw [← hR]
    clear hxy hfit ho1 ho2 hT hBB hBlt hR
    go_wp2_with fail
    ((with_reducible refine hpt.out.mono ?_); rintro e w2 ⟨hP, hB2⟩)
    have HB2 := Lib.hid (HB1.out.trans (hB2.mono HB1.out.size))
    have HR2 := Lib.hid (HR1.out.below hB2)
    have Z0 := Lib.hid (below_cell hB2 y0)
    have Z1 := Lib.hid (below_cell hB2 y1)
    have F2 := Lib.hid (fun i => (bcell hB2).2 B i HBB.out.2.1 |>.trans (f1 i))
    have HLT := Lib.hid (show B < w2.heap.size from Nat.lt_of_lt_of_le HBB.out.2.1 hB2.size)
    have hBB1 := HBB.out.1
    have hBB2 := HBB.out.2.1
    clear hB2 hpt y0 y1 f1
    rcases hP with ⟨hpo, v3, v4, rfl, hv3, -⟩ | ⟨hpo, rfl⟩
    · have hIb : (R.drop 1).take (partN R) = (imgOf b).bytes := by rw [HRb.out]; rfl
      rw [hIb] at hv3
      have HPO := Lib.hid hpo
      clear hIb hpo
      obtain ⟨a3, c3, rfl⟩ := hv3.form
      by_cases hy : y = 254
      · subst hy
        have hy' : ((254 : Int) == 254) = true := rfl
        obtain ⟨q1, q2⟩ : w2.cell? ⟨B, 0, none⟩ = some (.int .i64 x) ∧ w2.cell? ⟨B, 1, none⟩ = some (.int .i64 254) := ⟨Z0.out, Z1.out⟩
        have f3 := F2.out
        have hBlt2 := HLT.out
        have hS := Lib.hid (show (w2.setCell ⟨B, 1, none⟩ (.int .i64 (-1))).drew.cell? ⟨B, 0, none⟩ = some (.int .i64 x) ∧ (w2.setCell ⟨B, 1, none⟩ (.int .i64 (-1))).drew.cell? ⟨B, 1, none⟩ = some (.int .i64 (-1)) from ⟨by exact (World.cell?_setCell_other w2 ⟨B, 1, none⟩ ⟨B, 0, none⟩ (.int .i64 (-1)) (by simp)).trans q1, World.cell?_setCell_same w2 _ (.int .i64 (-1)) q2⟩)
        have HR4 := Lib.hid (HR2.out.far (p := ⟨B, 1, none⟩) (by simp; omega) (.int .i64 (-1)))
        have HB4 := Lib.hid (HB2.out.setCell (p := ⟨B, 1, none⟩) (by simp; omega) (.int .i64 (-1)))
        have HV4 := Lib.hid (And.intro ((hv3.setP plU (p := ⟨B, 1, none⟩) (fun e => by have := hv3.own_ge e; simp at this; omega) (.int .i64 (-1)))) (show (Value.slice a3 (imgOf b).bytes.length c3).ownBlock ≠ some w.heap.size from fun e => by have := hv3.own_ge e; have := HBB.out; omega))
        clear hv3
        go_wp2_with fail
        clear q1 q2
        refine rp_enter [2, 5] (fun W => W.cell? ⟨B, 0, none⟩ = some (.int .i64 x) ∧ W.cell? ⟨B, 1, none⟩ = some (.int .i64 (-1))) (by kernel_rfl) ?_
        obtain ⟨r1, r2, r3⟩ := HR2.out.all
        apply rp_pure 0 rfl (by kernel_rfl) (fun _ _ _ h => h) rfl
        · (intro W; go_simp; try rfl)
        · (go_simp; try rfl)
        apply rp_pure 1 rfl (by kernel_rfl) (fun _ _ _ h => h) rfl
        · (intro W; go_simp; try rfl)
        · (go_simp; try rfl)
        apply rp_take 2 rfl (by kernel_rfl) (fun _ _ _ h => h) (hS.out) rfl
        · (rintro W ⟨s0, s1⟩; go_simp; try rfl)
        · (go_simp; try rfl)
        apply rp_pure 3 rfl (by kernel_rfl) (fun _ _ _ h => h) rfl
        · (intro W; go_simp; try rfl)
        · (go_simp; try rfl)
        apply rp_pure 4 rfl (by kernel_rfl) (fun _ _ _ h => h) rfl
        · (intro W; go_simp; try rfl)
        · (go_simp; try rfl)
        apply rp_take 5 rfl (by kernel_rfl) (fun _ _ _ h => h) (hS.out) rfl
        · (rintro W ⟨s0, s1⟩; go_simp; try rfl)
        · (go_simp; try rfl)
        apply rp_pure 6 rfl (by kernel_rfl) (fun _ _ _ h => h) rfl
        · (intro W; go_simp; try rfl)
        · (go_simp; try rfl)
        apply rp_pure 7 rfl (by kernel_rfl) (fun _ _ _ h => h) rfl
        · (intro W; go_simp; try rfl)
        · (go_simp; try rfl)
        apply rp_pure 8 rfl (by kernel_rfl) (fun _ _ _ h => h) rfl
        · (intro W; go_simp; try rfl)
        · (go_simp; try rfl)
        refine rp_free 9 (by kernel_rfl) (by kernel_rfl) rfl (fun K hK => ?_)
        go_simp
        refine hK _ _ ?_; clear hK K
        apply rp_pure 10 rfl (by kernel_rfl) (fun _ _ _ h => h) rfl
        · (intro W; go_simp; try rfl)
        · (go_simp; try rfl)
        refine rp_done (by kernel_rfl) ?_
        clear r1 r2 r3
        have hx := st3_cells HR4.out (.int .i64 x) (.int .i64 (-1)) (.slice a3 (imgOf b).bytes.length c3)
        have HBf := Lib.hid ((((HB4.out.setCell (p := ⟨w.heap.size, 0, none⟩) (Nat.le_refl _) (.int .i64 x)).setCell (p := ⟨w.heap.size, 1, none⟩) (Nat.le_refl _) (.int .i64 (-1))).setCell (p := ⟨w.heap.size, 2, none⟩) (Nat.le_refl _) (.slice a3 (imgOf b).bytes.length c3)).drew)
        have HVf := Lib.hid ((((HV4.out.1.setP plU (p := ⟨w.heap.size, 0, none⟩) HV4.out.2 (.int .i64 x)).setP plU (p := ⟨w.heap.size, 1, none⟩) HV4.out.2 (.int .i64 (-1))).setP plU (p := ⟨w.heap.size, 2, none⟩) HV4.out.2 (.slice a3 (imgOf b).bytes.length c3)).drew)
        have hi1 := Lib.hid (show (imgOf b).zone = x ∧ (imgOf b).what = (-1) by simp [imgOf, HXY.out, whatN])
        have hSO := Lib.hid (show shownOk b = true by have h1 := HF.out; have h2 := HPO.out; rw [HRb.out] at h2; simp [shownOk, h1, h2])
        go_wp2
        refine bodyPost_ret (v := .tuple #[.agg #[.int .i64 x, .int .i64 (-1), .slice a3 (imgOf b).bytes.length c3], .int .i64 0]) (by simp [results, Tryz.results99, go_sem, hx]) rfl ?_
        refine ⟨.inl ⟨hSO.out, _, ?_, HVf.out.mono_base (Nat.le_of_lt HBB.out.2.2)⟩, HBf.out⟩
        rw [hi1.out.1, hi1.out.2]
      · skip
        have hne := Lib.hid hy
        have hy' : (y == 254) = false := by simpa using hy
        obtain ⟨q1, q2⟩ : w2.cell? ⟨B, 0, none⟩ = some (.int .i64 x) ∧ w2.cell? ⟨B, 1, none⟩ = some (.int .i64 y) := ⟨Z0.out, Z1.out⟩
        have hS := Lib.hid (show w2.drew.cell? ⟨B, 0, none⟩ = some (.int .i64 x) ∧ w2.drew.cell? ⟨B, 1, none⟩ = some (.int .i64 y) from ⟨q1, q2⟩)
        have HR4 := Lib.hid HR2.out
        have HB4 := Lib.hid HB2.out
        clear hy
        have HV4 := Lib.hid (And.intro hv3 (show (Value.slice a3 (imgOf b).bytes.length c3).ownBlock ≠ some w.heap.size from fun e => by have := hv3.own_ge e; have := HBB.out; omega))
        clear hv3
        go_wp2_with fail
        clear q1 q2
        refine rp_enter [2, 5] (fun W => W.cell? ⟨B, 0, none⟩ = some (.int .i64 x) ∧ W.cell? ⟨B, 1, none⟩ = some (.int .i64 y)) (by kernel_rfl) ?_
        obtain ⟨r1, r2, r3⟩ := HR2.out.all
        apply rp_pure 0 rfl (by kernel_rfl) (fun _ _ _ h => h) rfl
        · (intro W; go_simp; try rfl)
        · (go_simp; try rfl)
        apply rp_pure 1 rfl (by kernel_rfl) (fun _ _ _ h => h) rfl
        · (intro W; go_simp; try rfl)
        · (go_simp; try rfl)
        apply rp_take 2 rfl (by kernel_rfl) (fun _ _ _ h => h) (hS.out) rfl
        · (rintro W ⟨s0, s1⟩; go_simp; try rfl)
        · (go_simp; try rfl)
        apply rp_pure 3 rfl (by kernel_rfl) (fun _ _ _ h => h) rfl
        · (intro W; go_simp; try rfl)
        · (go_simp; try rfl)
        apply rp_pure 4 rfl (by kernel_rfl) (fun _ _ _ h => h) rfl
        · (intro W; go_simp; try rfl)
        · (go_simp; try rfl)
        apply rp_take 5 rfl (by kernel_rfl) (fun _ _ _ h => h) (hS.out) rfl
        · (rintro W ⟨s0, s1⟩; go_simp; try rfl)
        · (go_simp; try rfl)
        apply rp_pure 6 rfl (by kernel_rfl) (fun _ _ _ h => h) rfl
        · (intro W; go_simp; try rfl)
        · (go_simp; try rfl)
        apply rp_pure 7 rfl (by kernel_rfl) (fun _ _ _ h => h) rfl
        · (intro W; go_simp; try rfl)
        · (go_simp; try rfl)
        apply rp_pure 8 rfl (by kernel_rfl) (fun _ _ _ h => h) rfl
        · (intro W; go_simp; try rfl)
        · (go_simp; try rfl)
        refine rp_free 9 (by kernel_rfl) (by kernel_rfl) rfl (fun K hK => ?_)
        go_simp
        refine hK _ _ ?_; clear hK K
        apply rp_pure 10 rfl (by kernel_rfl) (fun _ _ _ h => h) rfl
        · (intro W; go_simp; try rfl)
        · (go_simp; try rfl)
        refine rp_done (by kernel_rfl) ?_
        clear r1 r2 r3
        have hx := st3_cells HR4.out (.int .i64 x) (.int .i64 y) (.slice a3 (imgOf b).bytes.length c3)
        have HBf := Lib.hid ((((HB4.out.setCell (p := ⟨w.heap.size, 0, none⟩) (Nat.le_refl _) (.int .i64 x)).setCell (p := ⟨w.heap.size, 1, none⟩) (Nat.le_refl _) (.int .i64 y)).setCell (p := ⟨w.heap.size, 2, none⟩) (Nat.le_refl _) (.slice a3 (imgOf b).bytes.length c3)).drew)
        have HVf := Lib.hid ((((HV4.out.1.setP plU (p := ⟨w.heap.size, 0, none⟩) HV4.out.2 (.int .i64 x)).setP plU (p := ⟨w.heap.size, 1, none⟩) HV4.out.2 (.int .i64 y)).setP plU (p := ⟨w.heap.size, 2, none⟩) HV4.out.2 (.slice a3 (imgOf b).bytes.length c3)).drew)
        have hi1 := Lib.hid (show (imgOf b).zone = x ∧ (imgOf b).what = y by simp [imgOf, HXY.out, whatN, hne.out])
        have hSO := Lib.hid (show shownOk b = true by have h1 := HF.out; have h2 := HPO.out; rw [HRb.out] at h2; simp [shownOk, h1, h2])
        go_wp2
        refine bodyPost_ret (v := .tuple #[.agg #[.int .i64 x, .int .i64 y, .slice a3 (imgOf b).bytes.length c3], .int .i64 0]) (by simp [results, Tryz.results99, go_sem, hx]) rfl ?_
        refine ⟨.inl ⟨hSO.out, _, ?_, HVf.out.mono_base (Nat.le_of_lt HBB.out.2.2)⟩, HBf.out⟩
        rw [hi1.out.1, hi1.out.2]
    · have HPO := Lib.hid hpo
      clear hpo
      by_cases hy : y = 254
      · subst hy
        have hy' : ((254 : Int) == 254) = true := rfl
        obtain ⟨q1, q2⟩ : w2.cell? ⟨B, 0, none⟩ = some (.int .i64 x) ∧ w2.cell? ⟨B, 1, none⟩ = some (.int .i64 254) := ⟨Z0.out, Z1.out⟩
        have f3 := F2.out
        have hBlt2 := HLT.out
        have hS := Lib.hid (show (w2.setCell ⟨B, 1, none⟩ (.int .i64 (-1))).drew.cell? ⟨B, 0, none⟩ = some (.int .i64 x) ∧ (w2.setCell ⟨B, 1, none⟩ (.int .i64 (-1))).drew.cell? ⟨B, 1, none⟩ = some (.int .i64 (-1)) from ⟨by exact (World.cell?_setCell_other w2 ⟨B, 1, none⟩ ⟨B, 0, none⟩ (.int .i64 (-1)) (by simp)).trans q1, World.cell?_setCell_same w2 _ (.int .i64 (-1)) q2⟩)
        have HR4 := Lib.hid (HR2.out.far (p := ⟨B, 1, none⟩) (by simp; omega) (.int .i64 (-1)))
        have HB4 := Lib.hid (HB2.out.setCell (p := ⟨B, 1, none⟩) (by simp; omega) (.int .i64 (-1)))
        go_wp2_with fail
        clear q1 q2
        refine rp_enter [2, 5] (fun W => W.cell? ⟨B, 0, none⟩ = some (.int .i64 x) ∧ W.cell? ⟨B, 1, none⟩ = some (.int .i64 (-1))) (by kernel_rfl) ?_
        obtain ⟨r1, r2, r3⟩ := HR2.out.all
        apply rp_pure 0 rfl (by kernel_rfl) (fun _ _ _ h => h) rfl
        · (intro W; go_simp; try rfl)
        · (go_simp; try rfl)
        apply rp_pure 1 rfl (by kernel_rfl) (fun _ _ _ h => h) rfl
        · (intro W; go_simp; try rfl)
        · (go_simp; try rfl)
        apply rp_take 2 rfl (by kernel_rfl) (fun _ _ _ h => h) (hS.out) rfl
        · (rintro W ⟨s0, s1⟩; go_simp; try rfl)
        · (go_simp; try rfl)
        apply rp_pure 3 rfl (by kernel_rfl) (fun _ _ _ h => h) rfl
        · (intro W; go_simp; try rfl)
        · (go_simp; try rfl)
        apply rp_pure 4 rfl (by kernel_rfl) (fun _ _ _ h => h) rfl
        · (intro W; go_simp; try rfl)
        · (go_simp; try rfl)
        apply rp_take 5 rfl (by kernel_rfl) (fun _ _ _ h => h) (hS.out) rfl
        · (rintro W ⟨s0, s1⟩; go_simp; try rfl)
        · (go_simp; try rfl)
        apply rp_pure 6 rfl (by kernel_rfl) (fun _ _ _ h => h) rfl
        · (intro W; go_simp; try rfl)
        · (go_simp; try rfl)
        apply rp_pure 7 rfl (by kernel_rfl) (fun _ _ _ h => h) rfl
        · (intro W; go_simp; try rfl)
        · (go_simp; try rfl)
        apply rp_pure 8 rfl (by kernel_rfl) (fun _ _ _ h => h) rfl
        · (intro W; go_simp; try rfl)
        · (go_simp; try rfl)
        refine rp_free 9 (by kernel_rfl) (by kernel_rfl) rfl (fun K hK => ?_)
        go_simp
        refine hK _ _ ?_; clear hK K
        apply rp_pure 10 rfl (by kernel_rfl) (fun _ _ _ h => h) rfl
        · (intro W; go_simp; try rfl)
        · (go_simp; try rfl)
        refine rp_done (by kernel_rfl) ?_
        clear r1 r2 r3
        have hx := st3_cells HR4.out (.int .i64 x) (.int .i64 (-1)) (.slice none 0 0)
        have HBf := Lib.hid ((((HB4.out.setCell (p := ⟨w.heap.size, 0, none⟩) (Nat.le_refl _) (.int .i64 x)).setCell (p := ⟨w.heap.size, 1, none⟩) (Nat.le_refl _) (.int .i64 (-1))).setCell (p := ⟨w.heap.size, 2, none⟩) (Nat.le_refl _) (.slice none 0 0)).drew)
        have hSO := Lib.hid (show shownOk b = false by have h2 := HPO.out; rw [HRb.out] at h2; simp [shownOk, h2])
        go_wp2
        refine bodyPost_ret (v := .tuple #[.agg #[.int .i64 x, .int .i64 (-1), .slice none 0 0], .int .i64 4]) (by simp [results, Tryz.results99, go_sem, hx]) rfl ?_
        exact ⟨.inr ⟨hSO.out, _, _, rfl⟩, HBf.out⟩
      · skip
        have hne := Lib.hid hy
        have hy' : (y == 254) = false := by simpa using hy
        obtain ⟨q1, q2⟩ : w2.cell? ⟨B, 0, none⟩ = some (.int .i64 x) ∧ w2.cell? ⟨B, 1, none⟩ = some (.int .i64 y) := ⟨Z0.out, Z1.out⟩
        have hS := Lib.hid (show w2.drew.cell? ⟨B, 0, none⟩ = some (.int .i64 x) ∧ w2.drew.cell? ⟨B, 1, none⟩ = some (.int .i64 y) from ⟨q1, q2⟩)
        have HR4 := Lib.hid HR2.out
        have HB4 := Lib.hid HB2.out
        clear hy
        go_wp2_with fail
        clear q1 q2
        refine rp_enter [2, 5] (fun W => W.cell? ⟨B, 0, none⟩ = some (.int .i64 x) ∧ W.cell? ⟨B, 1, none⟩ = some (.int .i64 y)) (by kernel_rfl) ?_
        obtain ⟨r1, r2, r3⟩ := HR2.out.all
        apply rp_pure 0 rfl (by kernel_rfl) (fun _ _ _ h => h) rfl
        · (intro W; go_simp; try rfl)
        · (go_simp; try rfl)
        apply rp_pure 1 rfl (by kernel_rfl) (fun _ _ _ h => h) rfl
        · (intro W; go_simp; try rfl)
        · (go_simp; try rfl)
        apply rp_take 2 rfl (by kernel_rfl) (fun _ _ _ h => h) (hS.out) rfl
        · (rintro W ⟨s0, s1⟩; go_simp; try rfl)
        · (go_simp; try rfl)
        apply rp_pure 3 rfl (by kernel_rfl) (fun _ _ _ h => h) rfl
        · (intro W; go_simp; try rfl)
        · (go_simp; try rfl)
        apply rp_pure 4 rfl (by kernel_rfl) (fun _ _ _ h => h) rfl
        · (intro W; go_simp; try rfl)
        · (go_simp; try rfl)
        apply rp_take 5 rfl (by kernel_rfl) (fun _ _ _ h => h) (hS.out) rfl
        · (rintro W ⟨s0, s1⟩; go_simp; try rfl)
        · (go_simp; try rfl)
        apply rp_pure 6 rfl (by kernel_rfl) (fun _ _ _ h => h) rfl
        · (intro W; go_simp; try rfl)
        · (go_simp; try rfl)
        apply rp_pure 7 rfl (by kernel_rfl) (fun _ _ _ h => h) rfl
        · (intro W; go_simp; try rfl)
        · (go_simp; try rfl)
        apply rp_pure 8 rfl (by kernel_rfl) (fun _ _ _ h => h) rfl
        · (intro W; go_simp; try rfl)
        · (go_simp; try rfl)
        refine rp_free 9 (by kernel_rfl) (by kernel_rfl) rfl (fun K hK => ?_)
        go_simp
        refine hK _ _ ?_; clear hK K
        apply rp_pure 10 rfl (by kernel_rfl) (fun _ _ _ h => h) rfl
        · (intro W; go_simp; try rfl)
        · (go_simp; try rfl)
        refine rp_done (by kernel_rfl) ?_
        clear r1 r2 r3
        have hx := st3_cells HR4.out (.int .i64 x) (.int .i64 y) (.slice none 0 0)
        have HBf := Lib.hid ((((HB4.out.setCell (p := ⟨w.heap.size, 0, none⟩) (Nat.le_refl _) (.int .i64 x)).setCell (p := ⟨w.heap.size, 1, none⟩) (Nat.le_refl _) (.int .i64 y)).setCell (p := ⟨w.heap.size, 2, none⟩) (Nat.le_refl _) (.slice none 0 0)).drew)
        have hSO := Lib.hid (show shownOk b = false by have h2 := HPO.out; rw [HRb.out] at h2; simp [shownOk, h2])
        go_wp2
        refine bodyPost_ret (v := .tuple #[.agg #[.int .i64 x, .int .i64 y, .slice none 0 0], .int .i64 4]) (by simp [results, Tryz.results99, go_sem, hx]) rfl ?_
        exact ⟨.inr ⟨hSO.out, _, _, rfl⟩, HBf.out⟩
  · obtain ⟨r1, r2, r3⟩ := HR1.out.all
    have hx := st3_cells HR1.out (.int .i64 0) (.int .i64 0) (.slice none 0 0)
    have HBf := Lib.hid (((HB1.out.setCell (p := ⟨w.heap.size, 0, none⟩) (Nat.le_refl _) (.int .i64 0)).setCell (p := ⟨w.heap.size, 1, none⟩) (Nat.le_refl _) (.int .i64 0)).setCell (p := ⟨w.heap.size, 2, none⟩) (Nat.le_refl _) (.slice none 0 0))
    have hN := Lib.hid (show shownOk b = false by
      have : tot [1, 1] = 2 := rfl
      simp [shownOk]; omega)
    clear hfew
    go_wp2
    refine bodyPost_ret (v := .tuple #[.agg #[.int .i64 0, .int .i64 0, .slice none 0 0], .int .i64 4]) (by simp [results, Tryz.results99, go_sem, hx]) rfl ?_
    exact ⟨.inr ⟨hN.out, 0, 0, rfl⟩, HBf.out⟩
end Go.Proofs.YteecmgonbdbhdaaGreatDoor
end

/-
rec.Read.
-/
section
namespace Go.Proofs.YteecmgonbdbhdaaGreatDoor
open Go.RowKit
attribute [local go_sem ↓] Go.wp_at_zero Go.wp_at_succ

def noImg : Img := ⟨0, 0, []⟩
/-- The record that bytes would be. -/
def parseR (b : List UInt8) : Rc := ⟨(nums szR b).getD 0 0, (nums szR b).getD 1 0, (nums szR b).getD 2 0, (nums szR b).getD 3 0, (nums szR b).getD 4 0, if (nums szR b).getD 0 0 = 1 then imgOf (b.drop 11) else noImg⟩
def readR (g : Geo) (b : List UInt8) : Option Rc :=
  if 11 ≤ b.length ∧ ((parseR b).kind = 1 → shownOk (b.drop 11) = true) ∧ okR g (parseR b) = true ∧ recB (parseR b) = b then some (parseR b) else none
def zeroR : Value := .agg #[.int .i64 0, .int .i64 0, .int .i64 0, .int .i64 0, .int .i64 0, .int .i64 0, .int .i64 0, .slice none 0 0]
def RreadP (w' : World) (base : Nat) (g : Geo) (b : List UInt8) (e : Ending) : Prop :=
  (okG g = false ∧ e = .returned (.tuple #[zeroR, .int .i64 1])) ∨
  (okG g = true ∧ readR g b = none ∧ e = .returned (.tuple #[zeroR, .int .i64 4])) ∨
  (okG g = true ∧ ∃ v r, readR g b = some r ∧ e = .returned (.tuple #[rv r v, .int .i64 0]) ∧ OwR w' noM base 5 v r.img.bytes)
theorem st8_cells {w : World} {b : Nat} {t : TypeId} {a0 a1 a2 a3 a4 a5 a6 a7 : Value} (h : Blk w b t #[a0, a1, a2, a3, a4, a5, a6, a7]) (x0 x1 x2 x3 x4 x5 x6 x7 : Value) (i : Nat) :
    ((((((((w.setCell ⟨b, 0, none⟩ x0).setCell ⟨b, 1, none⟩ x1).setCell ⟨b, 2, none⟩ x2).setCell ⟨b, 3, none⟩ x3).setCell ⟨b, 4, none⟩ x4).setCell ⟨b, 5, none⟩ x5).setCell ⟨b, 6, none⟩ x6).setCell ⟨b, 7, none⟩ x7).cell? ⟨b, i, none⟩ = #[x0, x1, x2, x3, x4, x5, x6, x7][i]? :=
  have b0 : Blk (w.setCell ⟨b, 0, none⟩ x0) b t #[x0, a1, a2, a3, a4, a5, a6, a7] := h.set_ 0 x0
  have b1 : Blk _ b t #[x0, x1, a2, a3, a4, a5, a6, a7] := b0.set_ 1 x1
  have b2 : Blk _ b t #[x0, x1, x2, a3, a4, a5, a6, a7] := b1.set_ 2 x2
  have b3 : Blk _ b t #[x0, x1, x2, x3, a4, a5, a6, a7] := b2.set_ 3 x3
  have b4 : Blk _ b t #[x0, x1, x2, x3, x4, a5, a6, a7] := b3.set_ 4 x4
  have b5 : Blk _ b t #[x0, x1, x2, x3, x4, x5, a6, a7] := b4.set_ 5 x5
  have b6 : Blk _ b t #[x0, x1, x2, x3, x4, x5, x6, a7] := b5.set_ 6 x6
  have b7 : Blk _ b t #[x0, x1, x2, x3, x4, x5, x6, x7] := b6.set_ 7 x7
  b7.cell i
theorem below_st8 {w0 w : World} {n : Nat} (h : Below n w0 w) {b : Nat} (hb : n ≤ b) (x0 x1 x2 x3 x4 x5 x6 x7 : Value) :
    Below n w0 ((((((((w.setCell ⟨b, 0, none⟩ x0).setCell ⟨b, 1, none⟩ x1).setCell ⟨b, 2, none⟩ x2).setCell ⟨b, 3, none⟩ x3).setCell ⟨b, 4, none⟩ x4).setCell ⟨b, 5, none⟩ x5).setCell ⟨b, 6, none⟩ x6).setCell ⟨b, 7, none⟩ x7) :=
  (((((((h.setCell (p := ⟨b, 0, none⟩) hb x0).setCell (p := ⟨b, 1, none⟩) hb x1).setCell (p := ⟨b, 2, none⟩) hb x2).setCell (p := ⟨b, 3, none⟩) hb x3).setCell (p := ⟨b, 4, none⟩) hb x4).setCell (p := ⟨b, 5, none⟩) hb x5).setCell (p := ⟨b, 6, none⟩) hb x6).setCell (p := ⟨b, 7, none⟩) hb x7
theorem ow_st8 {w : World} {M : Ms} {base : Nat} {e : TypeId} {v : Value} {l : List UInt8} (h : OwR w M base e v l) {b : Nat} (hb : v.ownBlock ≠ some b) (x0 x1 x2 x3 x4 x5 x6 x7 : Value) :
    OwR ((((((((w.setCell ⟨b, 0, none⟩ x0).setCell ⟨b, 1, none⟩ x1).setCell ⟨b, 2, none⟩ x2).setCell ⟨b, 3, none⟩ x3).setCell ⟨b, 4, none⟩ x4).setCell ⟨b, 5, none⟩ x5).setCell ⟨b, 6, none⟩ x6).setCell ⟨b, 7, none⟩ x7) M base e v l :=
  (((((((h.setP plU (p := ⟨b, 0, none⟩) hb x0).setP plU (p := ⟨b, 1, none⟩) hb x1).setP plU (p := ⟨b, 2, none⟩) hb x2).setP plU (p := ⟨b, 3, none⟩) hb x3).setP plU (p := ⟨b, 4, none⟩) hb x4).setP plU (p := ⟨b, 5, none⟩) hb x5).setP plU (p := ⟨b, 6, none⟩) hb x6).setP plU (p := ⟨b, 7, none⟩) hb x7
theorem imgOf_len (b : List UInt8) : (imgOf b).bytes.length ≤ b.length := by
  simp only [imgOf]
  rw [List.length_take, List.length_drop, List.length_drop]
  omega
theorem nums5 (b : List UInt8) : ∃ k s e a o, nums szR b = [k, s, e, a, o] ∧ parseR b = ⟨k, s, e, a, o, if k = 1 then imgOf (b.drop 11) else noImg⟩ := ⟨_, _, _, _, _, rfl, rfl⟩
theorem OwR.int5 {w : World} {M : Ms} {base : Nat} {e : TypeId} {v : Value} {x0 x1 x2 x3 x4 : Int} (h : OwR w M base e v [x0, x1, x2, x3, x4]) : ∃ B c, v = .slice (some ⟨B, 0, none⟩) 5 c ∧ base ≤ B ∧ ∀ i, i < 5 → w.cell? ⟨B, i, none⟩ = #[.int .i64 x0, .int .i64 x1, .int .i64 x2, .int .i64 x3, .int .i64 x4][i]? := by
  obtain ⟨B, c, cs, rfl, hb, -, -, he, hc⟩ := h.at_ (k := 0) (by simp)
  refine ⟨B, c, rfl, hb, fun i hi => ?_⟩
  obtain ⟨b', off, e1, -, x1⟩ := int_at (h.sl' (M := noM) (fun _ _ h => h)) (k := i) (by simpa using hi)
  cases e1
  rw [Nat.zero_add] at x1
  match i, hi with
  | 0, _ => exact x1
  | 1, _ => exact x1
  | 2, _ => exact x1
  | 3, _ => exact x1
  | 4, _ => exact x1

set_option maxRecDepth 100000 in
set_option maxHeartbeats 16000000 in
theorem rread_any (g : Geo) (v : Value) (b : List UInt8) (w : World) (Mi : Ms) (h : SlR w Mi v b) (hl : b.length ≤ 100000) :
    Calls Tryz.prog 87 #[gv g, v] w fun e w' => RreadP w' w.heap.size g b e ∧ Below w.heap.size w w' := by
  obtain ⟨z, d, sp, sl, an⟩ := g
  obtain ⟨a, c, rfl⟩ := h.form
  have hb1 := (Below.refl w.heap.size w).alloc (Nat.le_refl _) (.cells #[.int .i64 z, .int .i64 d, .int .i64 sp, .int .i64 sl, .int .i64 an] 23)
  have hb2 := hb1.alloc (by simp) (.cells #[.int .i64 0, .int .i64 0, .int .i64 0, .int .i64 0, .int .i64 0, .int .i64 0, .int .i64 0, .slice none 0 0] 76)
  have hG := (Blk.new w 23 #[.int .i64 z, .int .i64 d, .int .i64 sp, .int .i64 sl, .int .i64 an]).alloc (.cells #[.int .i64 0, .int .i64 0, .int .i64 0, .int .i64 0, .int .i64 0, .int .i64 0, .int .i64 0, .slice none 0 0] 76)
  have hR := Blk.new (w.alloc (.cells #[.int .i64 z, .int .i64 d, .int .i64 sp, .int .i64 sl, .int .i64 an] 23)) 76 #[.int .i64 0, .int .i64 0, .int .i64 0, .int .i64 0, .int .i64 0, .int .i64 0, .int .i64 0, .slice none 0 0]
  simp only [World.size_alloc] at hR
  have HB := Lib.hid hb2
  have HG := Lib.hid hG
  have HR := Lib.hid hR
  have H := Lib.hid h.bare
  have hck := Lib.hid (gcheck_any ⟨z, d, sp, sl, an⟩ ((w.alloc (.cells #[.int .i64 z, .int .i64 d, .int .i64 sp, .int .i64 sl, .int .i64 an] 23)).alloc (.cells #[.int .i64 0, .int .i64 0, .int .i64 0, .int .i64 0, .int .i64 0, .int .i64 0, .int .i64 0, .slice none 0 0] 76)))
  unfold gv at hck ⊢
  simp only at hck ⊢
  clear hb1 hb2 hG hR h
  cases hok : okG ⟨z, d, sp, sl, an⟩ with
  | false =>
    have hE := Lib.hid hok
    rw [hok] at hck
    unfold errV at hck
    clear hok
    go_enter Tryz.func87, Tryz.ntmps87
    go_wp2_with fail
    ((with_reducible refine hck.out.mono ?_); rintro e w1 ⟨rfl, hB1⟩)
    have hR1 := HR.out.below hB1
    obtain ⟨r1, r2, r3⟩ := hR1.all
    have hx := st8_cells hR1 (.int .i64 0) (.int .i64 0) (.int .i64 0) (.int .i64 0) (.int .i64 0) (.int .i64 0) (.int .i64 0) (.slice none 0 0)
    have HBf := Lib.hid (below_st8 (HB.out.trans (hB1.mono HB.out.size)) (Nat.le_succ _) (.int .i64 0) (.int .i64 0) (.int .i64 0) (.int .i64 0) (.int .i64 0) (.int .i64 0) (.int .i64 0) (.slice none 0 0))
    clear hR1
    go_wp2
    refine bodyPost_ret (v := .tuple #[.agg #[.int .i64 0, .int .i64 0, .int .i64 0, .int .i64 0, .int .i64 0, .int .i64 0, .int .i64 0, .slice none 0 0], .int .i64 1]) (by simp [results, Tryz.results87, go_sem, hx]) rfl ?_
    exact ⟨.inl ⟨hE.out, rfl⟩, HBf.out⟩
  | true =>
    have hE := Lib.hid hok
    rw [hok] at hck
    unfold errV at hck
    clear hok
    have hgb := Lib.hid (fun r v w' => rbytes_any ⟨z, d, sp, sl, an⟩ r v w')
    go_enter Tryz.func87, Tryz.ntmps87
    go_wp2_with fail
    ((with_reducible refine hck.out.mono ?_); rintro e w1 ⟨rfl, hB1⟩)
    have HB1 := Lib.hid (HB.out.trans (hB1.mono HB.out.size))
    have HG1 := Lib.hid (HG.out.below hB1)
    have HR1 := Lib.hid (HR.out.below hB1)
    clear hB1 hck HB HG HR
    go_wp2_with fail
    refine (sizes_any _).mono ?_
    rintro e w2 ⟨rfl, rfl⟩
    have hbs := (Below.refl w1.heap.size w1).alloc (Nat.le_refl _) (.cells #[.int .i64 1, .int .i64 4, .int .i64 4, .int .i64 1, .int .i64 1] 3)
    have hun := Lib.hid (unrow_any _ _ b szR _ noM noM (H.out.mono (Keep.below (HB1.out.trans (hbs.mono HB1.out.size)))) ((OwR.litI w1 noM szR (by simp)).sl (fun _ _ h => h)) (by decide) (by omega) (by simp))
    simp only [List.length_cons, List.length_nil, Nat.reduceAdd] at hun
    have HBS := Lib.hid hbs
    clear hbs
    go_wp2_with fail
    ((with_reducible refine hun.out.mono ?_); rintro e w2 ⟨hU, hB2⟩)
    have HB12 := Lib.hid (HBS.out.trans (hB2.mono HBS.out.size))
    have HB2 := Lib.hid (HB1.out.trans (HB12.out.mono HB1.out.size))
    have HG2 := Lib.hid (HG1.out.below HB12.out)
    have HR2 := Lib.hid (HR1.out.below HB12.out)
    clear hB2 hun
    rcases hU with ⟨hfit, v1, v2, rfl, ho1, ho2⟩ | ⟨hfew, rfl⟩
    · have hT : tot szR = 11 := rfl
      rw [hT] at hfit ho2
      obtain ⟨xk, xs, xe, xa, xo, hn5, hpr⟩ := nums5 b
      rw [hn5] at ho1
      obtain ⟨B, cB, rfl, hBB, y⟩ := ho1.int5
      obtain ⟨a2, c2, rfl⟩ := ho2.form
      have HPR := Lib.hid (And.intro hfit hpr)
      have HO2 := Lib.hid ho2
      have hS := Lib.hid (show ∀ i, i < 5 → w2.drew.cell? ⟨B, i, none⟩ = #[.int .i64 xk, .int .i64 xs, .int .i64 xe, .int .i64 xa, .int .i64 xo][i]? from y)
      obtain ⟨R, hR⟩ : ∃ R, R = b.drop 11 := ⟨_, rfl⟩
      rw [← hR] at HO2 ⊢
      have HRe := Lib.hid hR
      clear hfit hpr hn5 ho1 ho2 y hT hR
      go_wp2_with fail
      refine rp_enter [2, 5, 8, 11, 14] (fun W => ∀ i, i < 5 → W.cell? ⟨B, i, none⟩ = #[.int .i64 xk, .int .i64 xs, .int .i64 xe, .int .i64 xa, .int .i64 xo][i]?) (by kernel_rfl) ?_
      apply rp_pure 0 rfl (by kernel_rfl) (fun _ _ _ h => h) rfl
      · (intro W; go_simp; try rfl)
      · (go_simp; try rfl)
      apply rp_pure 1 rfl (by kernel_rfl) (fun _ _ _ h => h) rfl
      · (intro W; go_simp; try rfl)
      · (go_simp; try rfl)
      apply rp_take 2 rfl (by kernel_rfl) (fun _ _ _ h => h) (hS.out) rfl
      · (rintro W hW0; have s := hW0 0 (by omega); clear hW0; go_simp; try rfl)
      · (go_simp; try rfl)
      apply rp_pure 3 rfl (by kernel_rfl) (fun _ _ _ h => h) rfl
      · (intro W; go_simp; try rfl)
      · (go_simp; try rfl)
      apply rp_pure 4 rfl (by kernel_rfl) (fun _ _ _ h => h) rfl
      · (intro W; go_simp; try rfl)
      · (go_simp; try rfl)
      apply rp_take 5 rfl (by kernel_rfl) (fun _ _ _ h => h) (hS.out) rfl
      · (rintro W hW0; have s := hW0 1 (by omega); clear hW0; go_simp; try rfl)
      · (go_simp; try rfl)
      apply rp_pure 6 rfl (by kernel_rfl) (fun _ _ _ h => h) rfl
      · (intro W; go_simp; try rfl)
      · (go_simp; try rfl)
      apply rp_pure 7 rfl (by kernel_rfl) (fun _ _ _ h => h) rfl
      · (intro W; go_simp; try rfl)
      · (go_simp; try rfl)
      apply rp_take 8 rfl (by kernel_rfl) (fun _ _ _ h => h) (hS.out) rfl
      · (rintro W hW0; have s := hW0 2 (by omega); clear hW0; go_simp; try rfl)
      · (go_simp; try rfl)
      apply rp_pure 9 rfl (by kernel_rfl) (fun _ _ _ h => h) rfl
      · (intro W; go_simp; try rfl)
      · (go_simp; try rfl)
      apply rp_pure 10 rfl (by kernel_rfl) (fun _ _ _ h => h) rfl
      · (intro W; go_simp; try rfl)
      · (go_simp; try rfl)
      apply rp_take 11 rfl (by kernel_rfl) (fun _ _ _ h => h) (hS.out) rfl
      · (rintro W hW0; have s := hW0 3 (by omega); clear hW0; go_simp; try rfl)
      · (go_simp; try rfl)
      apply rp_pure 12 rfl (by kernel_rfl) (fun _ _ _ h => h) rfl
      · (intro W; go_simp; try rfl)
      · (go_simp; try rfl)
      apply rp_pure 13 rfl (by kernel_rfl) (fun _ _ _ h => h) rfl
      · (intro W; go_simp; try rfl)
      · (go_simp; try rfl)
      apply rp_take 14 rfl (by kernel_rfl) (fun _ _ _ h => h) (hS.out) rfl
      · (rintro W hW0; have s := hW0 4 (by omega); clear hW0; go_simp; try rfl)
      · (go_simp; try rfl)
      apply rp_pure 15 rfl (by kernel_rfl) (fun _ _ _ h => h) rfl
      · (intro W; go_simp; try rfl)
      · (go_simp; try rfl)
      refine rp_only 16 (by kernel_rfl) rfl (fun K hK => ?_)
      go_simp
      have hBl : B < w2.heap.size := World.block_lt_of_cell? w2 ⟨B, 0, none⟩ (hS.out 0 (by omega))
      have hbA := ((Below.refl w2.heap.size w2).alloc (Nat.le_refl _) (.cells #[.int .i64 0, .int .i64 0, .int .i64 0, .int .i64 0, .int .i64 0, .int .i64 0, .int .i64 0, .slice none 0 0] 76)).drew
      have hS2 := Lib.hid (fun (i : Nat) (hi : i < 5) => ((bcell hbA).1 B i hBl).trans (hS.out i hi))
      refine hK _ _ ⟨fun _ _ => hS2.out, ?_⟩; clear hK K
      obtain ⟨q1, q2, q3⟩ := (Blk.new w2 76 #[.int .i64 0, .int .i64 0, .int .i64 0, .int .i64 0, .int .i64 0, .int .i64 0, .int .i64 0, .slice none 0 0]).all
      clear hbA
      refine rp_free 17 (by kernel_rfl) (by kernel_rfl) rfl (fun K hK => ?_)
      go_simp
      refine hK _ _ ?_; clear hK K q1 q2 q3
      refine rp_done (by kernel_rfl) ?_
      have hbW := ((Below.refl w2.heap.size w2).alloc (Nat.le_refl _) (.cells #[.int .i64 xk, .int .i64 xs, .int .i64 xe, .int .i64 xa, .int .i64 xo, .int .i64 0, .int .i64 0, .slice none 0 0] 76)).drew
      have HBW := Lib.hid (HB2.out.trans (hbW.mono HB2.out.size))
      have HGW := Lib.hid (HG2.out.below hbW)
      have HRW := Lib.hid (HR2.out.below hbW)
      have HQW := Lib.hid ((Blk.new w2 76 #[.int .i64 xk, .int .i64 xs, .int .i64 xe, .int .i64 xa, .int .i64 xo, .int .i64 0, .int .i64 0, .slice none 0 0]).drew)
      have HOW := Lib.hid ((HO2.out.below hbW).mono_base (base' := w.heap.size) (Nat.le_trans HB1.out.size HBS.out.size))
      have HQl := Lib.hid (show w.heap.size + 1 < w2.heap.size from HR2.out.lt)
      clear hbW hS hS2 hBl hBB HO2
      obtain ⟨W, hW⟩ : ∃ W, W = (w2.alloc (.cells #[.int .i64 xk, .int .i64 xs, .int .i64 xe, .int .i64 xa, .int .i64 xo, .int .i64 0, .int .i64 0, .slice none 0 0] 76)).drew := ⟨_, rfl⟩
      rw [← hW] at HBW HGW HRW HQW HOW ⊢
      clear hW
      obtain ⟨q, hq⟩ : ∃ q, q = w2.heap.size := ⟨_, rfl⟩
      rw [← hq] at HQW HQl ⊢
      clear hq
      obtain ⟨q1, q2, q3⟩ := HQW.out.all
      by_cases hk : xk = 1
      · subst hk
        have hsh := Lib.hid (shown_any _ R W noM (HOW.out.sl (fun _ _ h => h)) (by have := HRe.out; rw [this, List.length_drop]; omega))
        go_wp2_with fail
        ((with_reducible refine hsh.out.mono ?_); rintro e w7 ⟨hU, hB7⟩)
        clear q1 q2 q3
        have HB7 := Lib.hid (HBW.out.trans (hB7.mono HBW.out.size))
        have HG7 := Lib.hid (HGW.out.below hB7)
        have HR7 := Lib.hid (HRW.out.below hB7)
        have HQ7 := Lib.hid (HQW.out.below hB7)
        have HWl := Lib.hid HQW.out.lt
        clear hB7 hsh
        obtain ⟨q1, q2, q3⟩ := HQ7.out.all
        rcases hU with ⟨hso, vI, rfl, hoI⟩ | ⟨hsn, x, y, rfl⟩
        · obtain ⟨aI, cI, rfl⟩ := hoI.form
          have HVI := Lib.hid hoI
          have HSO := Lib.hid hso
          clear hoI hso
          obtain ⟨g1, g2, g3⟩ := HG7.out.all
          go_wp2_with fail
          clear q1 q2 q3 g1 g2 g3
          have HB8 := Lib.hid (((HB7.out.setCell (p := ⟨q, 5, none⟩) (by have := HQl.out; simp; omega) (.int .i64 (imgOf R).zone)).setCell (p := ⟨q, 6, none⟩) (by have := HQl.out; simp; omega) (.int .i64 (imgOf R).what)).setCell (p := ⟨q, 7, none⟩) (by have := HQl.out; simp; omega) (.slice aI (imgOf R).bytes.length cI))
          have HG8 := Lib.hid (((HG7.out.far (p := ⟨q, 5, none⟩) (by have := HQl.out; simp; omega) (.int .i64 (imgOf R).zone)).far (p := ⟨q, 6, none⟩) (by have := HQl.out; simp; omega) (.int .i64 (imgOf R).what)).far (p := ⟨q, 7, none⟩) (by have := HQl.out; simp; omega) (.slice aI (imgOf R).bytes.length cI))
          have HR8 := Lib.hid (((HR7.out.far (p := ⟨q, 5, none⟩) (by have := HQl.out; simp; omega) (.int .i64 (imgOf R).zone)).far (p := ⟨q, 6, none⟩) (by have := HQl.out; simp; omega) (.int .i64 (imgOf R).what)).far (p := ⟨q, 7, none⟩) (by have := HQl.out; simp; omega) (.slice aI (imgOf R).bytes.length cI))
          have HQ8 : Hid (Blk (((w7.setCell ⟨q, 5, none⟩ (.int .i64 (imgOf R).zone)).setCell ⟨q, 6, none⟩ (.int .i64 (imgOf R).what)).setCell ⟨q, 7, none⟩ (.slice aI (imgOf R).bytes.length cI)) q 76 #[.int .i64 1, .int .i64 xs, .int .i64 xe, .int .i64 xa, .int .i64 xo, .int .i64 (imgOf R).zone, .int .i64 (imgOf R).what, .slice aI (imgOf R).bytes.length cI]) := Lib.hid (((HQ7.out.set_ 5 (.int .i64 (imgOf R).zone)).set_ 6 (.int .i64 (imgOf R).what)).set_ 7 (.slice aI (imgOf R).bytes.length cI))
          have hnq : (.slice aI (imgOf R).bytes.length cI : Value).ownBlock ≠ some q := fun e => by have := HVI.out.own_ge e; have := HWl.out; omega
          have HVI8 := Lib.hid (And.intro (((HVI.out.setP plU (p := ⟨q, 5, none⟩) hnq (.int .i64 (imgOf R).zone)).setP plU (p := ⟨q, 6, none⟩) hnq (.int .i64 (imgOf R).what)).setP plU (p := ⟨q, 7, none⟩) hnq (.slice aI (imgOf R).bytes.length cI)) trivial)
          clear hnq
          obtain ⟨W8, hW8⟩ : ∃ W8, W8 = ((w7.setCell ⟨q, 5, none⟩ (.int .i64 (imgOf R).zone)).setCell ⟨q, 6, none⟩ (.int .i64 (imgOf R).what)).setCell ⟨q, 7, none⟩ (.slice aI (imgOf R).bytes.length cI) := ⟨_, rfl⟩
          rw [← hW8] at HB8 HG8 HR8 HQ8 HVI8 ⊢
          clear hW8
          have hby := Lib.hid (hgb.out ⟨1, xs, xe, xa, xo, imgOf R⟩ (.slice aI (imgOf R).bytes.length cI) W8 noM (HVI8.out.1.sl (fun _ _ h => h)) (Nat.le_trans (imgOf_len R) (by rw [HRe.out, List.length_drop]; omega)))
          unfold gv rv at hby

          ((with_reducible refine hby.out.mono ?_); rintro e w9 ⟨hU, hB9⟩)
          have HB9 := Lib.hid (HB8.out.trans (hB9.mono HB8.out.size))
          have HR9 := Lib.hid (HR8.out.below hB9)
          have HQ9 := Lib.hid (HQ8.out.below hB9)
          have HV9 := Lib.hid (HVI8.out.1.below hB9)
          clear hB9 hby
          have HRR := Lib.hid (show parseR b = ⟨1, xs, xe, xa, xo, imgOf R⟩ by
            have hpr := HPR.out.2
            simp only [if_true, ← HRe.out] at hpr
            exact hpr)
          rcases hU with ⟨hok, vb, rfl, hob⟩ | ⟨hno, rfl⟩
          · have heq := Lib.hid (equal_any vb (.slice a b.length c) (recB ⟨1, xs, xe, xa, xo, imgOf R⟩) b w9 noM noM (hob.sl (fun _ _ h => h)) (H.out.mono (Keep.below HB9.out)))
            obtain ⟨ab, cb, rfl⟩ := hob.form
            have HOK := Lib.hid hok
            clear hok hob
            cases hd : decide (recB ⟨1, xs, xe, xa, xo, imgOf R⟩ = b) with
            | false =>
              have HN := Lib.hid (show readR ⟨z, d, sp, sl, an⟩ b = none by
                rw [readR, if_neg]
                rintro ⟨h1, h2, h3, h4⟩
                rw [HRR.out] at h4
                simp [h4] at hd)
              rw [hd] at heq
              clear hd
              have hR9 := HR9.out
              obtain ⟨r1, r2, r3⟩ := hR9.all
              have hx := st8_cells hR9 (.int .i64 0) (.int .i64 0) (.int .i64 0) (.int .i64 0) (.int .i64 0) (.int .i64 0) (.int .i64 0) (.slice none 0 0)
              have HBf := Lib.hid (below_st8 HB9.out (Nat.le_succ _) (.int .i64 0) (.int .i64 0) (.int .i64 0) (.int .i64 0) (.int .i64 0) (.int .i64 0) (.int .i64 0) (.slice none 0 0))
              clear hR9
              go_wp2_with (go_at_call 100; go_must (with_reducible refine heq.out.mono ?_); rintro e w10 ⟨rfl, rfl⟩)
              refine bodyPost_ret (v := .tuple #[.agg #[.int .i64 0, .int .i64 0, .int .i64 0, .int .i64 0, .int .i64 0, .int .i64 0, .int .i64 0, .slice none 0 0], .int .i64 4]) (by simp [results, Tryz.results87, go_sem, hx]) rfl ?_
              exact ⟨.inr (.inl ⟨hE.out, HN.out, rfl⟩), HBf.out⟩
            | true =>
              have HY := Lib.hid (show readR ⟨z, d, sp, sl, an⟩ b = some ⟨1, xs, xe, xa, xo, imgOf R⟩ by
                rw [readR, if_pos, HRR.out]
                rw [HRR.out]
                exact ⟨HPR.out.1, fun _ => by rw [← HRe.out]; exact HSO.out, HOK.out, by simpa using hd⟩)
              rw [hd] at heq
              clear hd
              have hR9 := HR9.out
              obtain ⟨r1, r2, r3⟩ := hR9.all
              obtain ⟨q1, q2, q3⟩ := HQ9.out.all
              have hx := st8_cells hR9 (.int .i64 1) (.int .i64 xs) (.int .i64 xe) (.int .i64 xa) (.int .i64 xo) (.int .i64 (imgOf R).zone) (.int .i64 (imgOf R).what) (.slice aI (imgOf R).bytes.length cI)
              have HBf := Lib.hid (below_st8 HB9.out (Nat.le_succ _) (.int .i64 1) (.int .i64 xs) (.int .i64 xe) (.int .i64 xa) (.int .i64 xo) (.int .i64 (imgOf R).zone) (.int .i64 (imgOf R).what) (.slice aI (imgOf R).bytes.length cI))
              clear hR9
              go_wp2_with (go_at_call 100; go_must (with_reducible refine heq.out.mono ?_); rintro e w10 ⟨rfl, rfl⟩)
              refine bodyPost_ret (v := .tuple #[.agg #[.int .i64 1, .int .i64 xs, .int .i64 xe, .int .i64 xa, .int .i64 xo, .int .i64 (imgOf R).zone, .int .i64 (imgOf R).what, .slice aI (imgOf R).bytes.length cI], .int .i64 0]) (by simp [results, Tryz.results87, go_sem, hx]) rfl ?_
              exact ⟨.inr (.inr ⟨hE.out, _, _, HY.out, rfl, ow_st8 (HV9.out.mono_base HBW.out.size) (fun e => by have := HV9.out.own_ge e; have := HWl.out; have := HQl.out; omega) _ _ _ _ _ _ _ _⟩), HBf.out⟩
          · have HN := Lib.hid (show readR ⟨z, d, sp, sl, an⟩ b = none by
              rw [readR, if_neg]
              rintro ⟨h1, h2, h3, h4⟩
              rw [HRR.out] at h3
              exact absurd (h3.symm.trans hno) (by simp))
            clear hno
            have hR9 := HR9.out
            obtain ⟨r1, r2, r3⟩ := hR9.all
            have hx := st8_cells hR9 (.int .i64 0) (.int .i64 0) (.int .i64 0) (.int .i64 0) (.int .i64 0) (.int .i64 0) (.int .i64 0) (.slice none 0 0)
            have HBf := Lib.hid (below_st8 HB9.out (Nat.le_succ _) (.int .i64 0) (.int .i64 0) (.int .i64 0) (.int .i64 0) (.int .i64 0) (.int .i64 0) (.int .i64 0) (.slice none 0 0))
            clear hR9
            go_wp2
            refine bodyPost_ret (v := .tuple #[.agg #[.int .i64 0, .int .i64 0, .int .i64 0, .int .i64 0, .int .i64 0, .int .i64 0, .int .i64 0, .slice none 0 0], .int .i64 4]) (by simp [results, Tryz.results87, go_sem, hx]) rfl ?_
            exact ⟨.inr (.inl ⟨hE.out, HN.out, rfl⟩), HBf.out⟩
        · have HSN := Lib.hid hsn
          clear hsn
          obtain ⟨g1, g2, g3⟩ := HG7.out.all
          go_wp2_with fail
          clear q1 q2 q3 g1 g2 g3
          have HB8 := Lib.hid (((HB7.out.setCell (p := ⟨q, 5, none⟩) (by have := HQl.out; simp; omega) (.int .i64 x)).setCell (p := ⟨q, 6, none⟩) (by have := HQl.out; simp; omega) (.int .i64 y)).setCell (p := ⟨q, 7, none⟩) (by have := HQl.out; simp; omega) (.slice none 0 0))
          have HG8 := Lib.hid (((HG7.out.far (p := ⟨q, 5, none⟩) (by have := HQl.out; simp; omega) (.int .i64 x)).far (p := ⟨q, 6, none⟩) (by have := HQl.out; simp; omega) (.int .i64 y)).far (p := ⟨q, 7, none⟩) (by have := HQl.out; simp; omega) (.slice none 0 0))
          have HR8 := Lib.hid (((HR7.out.far (p := ⟨q, 5, none⟩) (by have := HQl.out; simp; omega) (.int .i64 x)).far (p := ⟨q, 6, none⟩) (by have := HQl.out; simp; omega) (.int .i64 y)).far (p := ⟨q, 7, none⟩) (by have := HQl.out; simp; omega) (.slice none 0 0))
          have HQ8 : Hid (Blk (((w7.setCell ⟨q, 5, none⟩ (.int .i64 x)).setCell ⟨q, 6, none⟩ (.int .i64 y)).setCell ⟨q, 7, none⟩ (.slice none 0 0)) q 76 #[.int .i64 1, .int .i64 xs, .int .i64 xe, .int .i64 xa, .int .i64 xo, .int .i64 x, .int .i64 y, .slice none 0 0]) := Lib.hid (((HQ7.out.set_ 5 (.int .i64 x)).set_ 6 (.int .i64 y)).set_ 7 (.slice none 0 0))
          obtain ⟨W8, hW8⟩ : ∃ W8, W8 = ((w7.setCell ⟨q, 5, none⟩ (.int .i64 x)).setCell ⟨q, 6, none⟩ (.int .i64 y)).setCell ⟨q, 7, none⟩ (.slice none 0 0) := ⟨_, rfl⟩
          rw [← hW8] at HB8 HG8 HR8 HQ8  ⊢
          clear hW8
          have hby := Lib.hid (hgb.out ⟨1, xs, xe, xa, xo, ⟨x, y, []⟩⟩ (.slice none 0 0) W8 noM (sl_nil _ _ 0 (by simp [maxLen])) (by simp))
          unfold gv rv at hby
          simp only at hby
          ((with_reducible refine hby.out.mono ?_); rintro e w9 ⟨hU, hB9⟩)
          have HB9 := Lib.hid (HB8.out.trans (hB9.mono HB8.out.size))
          have HR9 := Lib.hid (HR8.out.below hB9)
          have HQ9 := Lib.hid (HQ8.out.below hB9)
          clear hB9 hby
          have HN := Lib.hid (show readR ⟨z, d, sp, sl, an⟩ b = none by
            rw [readR, if_neg]
            rintro ⟨h1, h2, h3, h4⟩
            have h5 := h2 (by rw [HPR.out.2])
            rw [← HRe.out, HSN.out] at h5
            cases h5)
          rcases hU with ⟨-, vb, rfl, hob⟩ | ⟨-, rfl⟩
          · obtain ⟨ab, cb, rfl⟩ := hob.form
            clear hob
            have hR9 := HR9.out
            obtain ⟨r1, r2, r3⟩ := hR9.all
            have hx := st8_cells hR9 (.int .i64 0) (.int .i64 0) (.int .i64 0) (.int .i64 0) (.int .i64 0) (.int .i64 0) (.int .i64 0) (.slice none 0 0)
            have HBf := Lib.hid (below_st8 HB9.out (Nat.le_succ _) (.int .i64 0) (.int .i64 0) (.int .i64 0) (.int .i64 0) (.int .i64 0) (.int .i64 0) (.int .i64 0) (.slice none 0 0))
            clear hR9
            go_wp2
            refine bodyPost_ret (v := .tuple #[.agg #[.int .i64 0, .int .i64 0, .int .i64 0, .int .i64 0, .int .i64 0, .int .i64 0, .int .i64 0, .slice none 0 0], .int .i64 4]) (by simp [results, Tryz.results87, go_sem, hx]) rfl ?_
            exact ⟨.inr (.inl ⟨hE.out, HN.out, rfl⟩), HBf.out⟩
          · skip
            have hR9 := HR9.out
            obtain ⟨r1, r2, r3⟩ := hR9.all
            have hx := st8_cells hR9 (.int .i64 0) (.int .i64 0) (.int .i64 0) (.int .i64 0) (.int .i64 0) (.int .i64 0) (.int .i64 0) (.slice none 0 0)
            have HBf := Lib.hid (below_st8 HB9.out (Nat.le_succ _) (.int .i64 0) (.int .i64 0) (.int .i64 0) (.int .i64 0) (.int .i64 0) (.int .i64 0) (.int .i64 0) (.slice none 0 0))
            clear hR9
            go_wp2
            refine bodyPost_ret (v := .tuple #[.agg #[.int .i64 0, .int .i64 0, .int .i64 0, .int .i64 0, .int .i64 0, .int .i64 0, .int .i64 0, .slice none 0 0], .int .i64 4]) (by simp [results, Tryz.results87, go_sem, hx]) rfl ?_
            exact ⟨.inr (.inl ⟨hE.out, HN.out, rfl⟩), HBf.out⟩
      · have hk' : (xk == 1) = false := by simpa using hk
        have hkk := Lib.hid hk
        clear hk q1 q2 q3
        obtain ⟨q1, q2, q3⟩ := HQW.out.all
        have HB8 := HBW
        have HG8 := HGW
        have HR8 := HRW
        have HQ8 := HQW
        obtain ⟨W8, hW8⟩ : ∃ W8, W8 = W := ⟨_, rfl⟩
        rw [← hW8] at HB8 HG8 HR8 HQ8 q1 q2 q3 ⊢
        clear hW8
        obtain ⟨g1, g2, g3⟩ := HG8.out.all
        go_wp2_with fail
        clear q1 q2 q3 g1 g2 g3
        have hby := Lib.hid (hgb.out ⟨xk, xs, xe, xa, xo, noImg⟩ (.slice none 0 0) W8 noM (sl_nil _ _ 0 (by simp [maxLen])) (by simp [noImg]))
        unfold gv rv at hby
        simp only [noImg] at hby
        ((with_reducible refine hby.out.mono ?_); rintro e w9 ⟨hU, hB9⟩)
        have HB9 := Lib.hid (HB8.out.trans (hB9.mono HB8.out.size))
        have HR9 := Lib.hid (HR8.out.below hB9)
        have HQ9 := Lib.hid (HQ8.out.below hB9)
        clear hB9 hby
        have HRR := Lib.hid (show parseR b = ⟨xk, xs, xe, xa, xo, noImg⟩ by
          have hpr := HPR.out.2
          simp only [if_neg hkk.out] at hpr
          exact hpr)
        rcases hU with ⟨hok, vb, rfl, hob⟩ | ⟨hno, rfl⟩
        · have heq := Lib.hid (equal_any vb (.slice a b.length c) (recB ⟨xk, xs, xe, xa, xo, noImg⟩) b w9 noM noM (hob.sl (fun _ _ h => h)) (H.out.mono (Keep.below HB9.out)))
          obtain ⟨ab, cb, rfl⟩ := hob.form
          have HOK := Lib.hid hok
          clear hok hob
          cases hd : decide (recB ⟨xk, xs, xe, xa, xo, noImg⟩ = b) with
          | false =>
            have HN := Lib.hid (show readR ⟨z, d, sp, sl, an⟩ b = none by
              rw [readR, if_neg]
              rintro ⟨h1, h2, h3, h4⟩
              rw [HRR.out] at h4
              simp [h4] at hd)
            rw [hd] at heq
            clear hd
            have hR9 := HR9.out
            obtain ⟨r1, r2, r3⟩ := hR9.all
            have hx := st8_cells hR9 (.int .i64 0) (.int .i64 0) (.int .i64 0) (.int .i64 0) (.int .i64 0) (.int .i64 0) (.int .i64 0) (.slice none 0 0)
            have HBf := Lib.hid (below_st8 HB9.out (Nat.le_succ _) (.int .i64 0) (.int .i64 0) (.int .i64 0) (.int .i64 0) (.int .i64 0) (.int .i64 0) (.int .i64 0) (.slice none 0 0))
            clear hR9
            go_wp2_with (go_at_call 100; go_must (with_reducible refine heq.out.mono ?_); rintro e w10 ⟨rfl, rfl⟩)
            refine bodyPost_ret (v := .tuple #[.agg #[.int .i64 0, .int .i64 0, .int .i64 0, .int .i64 0, .int .i64 0, .int .i64 0, .int .i64 0, .slice none 0 0], .int .i64 4]) (by simp [results, Tryz.results87, go_sem, hx]) rfl ?_
            exact ⟨.inr (.inl ⟨hE.out, HN.out, rfl⟩), HBf.out⟩
          | true =>
            have HY := Lib.hid (show readR ⟨z, d, sp, sl, an⟩ b = some ⟨xk, xs, xe, xa, xo, noImg⟩ by
              rw [readR, if_pos, HRR.out]
              rw [HRR.out]
              exact ⟨HPR.out.1, fun h => absurd h hkk.out, HOK.out, by simpa using hd⟩)
            rw [hd] at heq
            clear hd
            have hR9 := HR9.out
            obtain ⟨r1, r2, r3⟩ := hR9.all
            obtain ⟨q1, q2, q3⟩ := HQ9.out.all
            have hx := st8_cells hR9 (.int .i64 xk) (.int .i64 xs) (.int .i64 xe) (.int .i64 xa) (.int .i64 xo) (.int .i64 0) (.int .i64 0) (.slice none 0 0)
            have HBf := Lib.hid (below_st8 HB9.out (Nat.le_succ _) (.int .i64 xk) (.int .i64 xs) (.int .i64 xe) (.int .i64 xa) (.int .i64 xo) (.int .i64 0) (.int .i64 0) (.slice none 0 0))
            clear hR9
            go_wp2_with (go_at_call 100; go_must (with_reducible refine heq.out.mono ?_); rintro e w10 ⟨rfl, rfl⟩)
            refine bodyPost_ret (v := .tuple #[.agg #[.int .i64 xk, .int .i64 xs, .int .i64 xe, .int .i64 xa, .int .i64 xo, .int .i64 0, .int .i64 0, .slice none 0 0], .int .i64 0]) (by simp [results, Tryz.results87, go_sem, hx]) rfl ?_
            exact ⟨.inr (.inr ⟨hE.out, _, _, HY.out, rfl, OwR.nil _ _ _ _⟩), HBf.out⟩
        · have HN := Lib.hid (show readR ⟨z, d, sp, sl, an⟩ b = none by
            rw [readR, if_neg]
            rintro ⟨h1, h2, h3, h4⟩
            rw [HRR.out] at h3
            exact absurd (h3.symm.trans hno) (by simp))
          clear hno
          have hR9 := HR9.out
          obtain ⟨r1, r2, r3⟩ := hR9.all
          have hx := st8_cells hR9 (.int .i64 0) (.int .i64 0) (.int .i64 0) (.int .i64 0) (.int .i64 0) (.int .i64 0) (.int .i64 0) (.slice none 0 0)
          have HBf := Lib.hid (below_st8 HB9.out (Nat.le_succ _) (.int .i64 0) (.int .i64 0) (.int .i64 0) (.int .i64 0) (.int .i64 0) (.int .i64 0) (.int .i64 0) (.slice none 0 0))
          clear hR9
          go_wp2
          refine bodyPost_ret (v := .tuple #[.agg #[.int .i64 0, .int .i64 0, .int .i64 0, .int .i64 0, .int .i64 0, .int .i64 0, .int .i64 0, .slice none 0 0], .int .i64 4]) (by simp [results, Tryz.results87, go_sem, hx]) rfl ?_
          exact ⟨.inr (.inl ⟨hE.out, HN.out, rfl⟩), HBf.out⟩
    · have hR2 := HR2.out
      obtain ⟨r1, r2, r3⟩ := hR2.all
      have hx := st8_cells hR2 (.int .i64 0) (.int .i64 0) (.int .i64 0) (.int .i64 0) (.int .i64 0) (.int .i64 0) (.int .i64 0) (.slice none 0 0)
      have HBf := Lib.hid (below_st8 HB2.out (Nat.le_succ _) (.int .i64 0) (.int .i64 0) (.int .i64 0) (.int .i64 0) (.int .i64 0) (.int .i64 0) (.int .i64 0) (.slice none 0 0))
      have hN := Lib.hid (show readR ⟨z, d, sp, sl, an⟩ b = none by
        have : tot szR = 11 := rfl
        rw [readR, if_neg]
        rintro ⟨h, -⟩
        omega)
      clear hR2 hfew
      go_wp2
      refine bodyPost_ret (v := .tuple #[.agg #[.int .i64 0, .int .i64 0, .int .i64 0, .int .i64 0, .int .i64 0, .int .i64 0, .int .i64 0, .slice none 0 0], .int .i64 4]) (by simp [results, Tryz.results87, go_sem, hx]) rfl ?_
      exact ⟨.inr (.inl ⟨hE.out, hN.out, rfl⟩), HBf.out⟩
end Go.Proofs.YteecmgonbdbhdaaGreatDoor
end

/-
rec.Txn.
-/
section
namespace Go.Proofs.YteecmgonbdbhdaaGreatDoor
open Go.RowKit
attribute [local go_sem ↓] Go.wp_at_zero Go.wp_at_succ

theorem OwR.box {α : Type} [Rp α] {w w' : World} {M : Ms} {base g : Nat} {e : TypeId} {v : Value} {l : List α} (h : OwR w M base e v l) (hb : Below w.heap.size w w') (hg : w.heap.size ≤ g) : OwR w' (Ms.and M g) base e v l := by
  obtain ⟨xs, ho, he⟩ := h
  refine ⟨xs, (ho.kept (row := none) ⟨hb.os, hb.tape, hb.output, hb.size, fun k hk _ => hb.block k hk⟩ (by cases v.ownBlock <;> simp)), he.mono fun cs x _ => Rp.mono fun b hb' hm => ⟨fun h' => ?_, hb.block b hb'⟩⟩
  rcases h' with (h' | h') | h'
  · exact hm (.inl h')
  · omega
  · exact hm (.inr h')

/-- The first k images' records. -/
def imgR (seq epoch of_ : Int) (k : Nat) (l : List Img) : List Rc := ((l.take k).zipIdx).map fun p => ⟨1, seq, epoch, (p.2 : Nat), of_, p.1⟩
theorem imgR_step (seq epoch of_ : Int) {k : Nat} {l : List Img} (hk : k < l.length) : imgR seq epoch of_ (k + 1) l = imgR seq epoch of_ k l ++ [⟨1, seq, epoch, (k : Nat), of_, l[k]⟩] := by
  unfold imgR
  rw [List.take_add_one, List.getElem?_eq_getElem hk, List.zipIdx_append, List.map_append]
  simp [Nat.min_eq_left (Nat.le_of_lt hk)]
theorem imgR_len (seq epoch of_ : Int) (k : Nat) (l : List Img) : (imgR seq epoch of_ k l).length = min k l.length := by
  unfold imgR; simp
/-- A transaction's records. -/
def recsOf (seq epoch : Int) (l : List Img) : List Rc := imgR seq epoch (l.length + 1) l.length l ++ [⟨2, seq, epoch, l.length, l.length + 1, noImg⟩]
def txnE (g : Geo) (seq epoch : Int) (l : List Img) : Int :=
  if (okG g && (inB seq 0 4294967295 && inB epoch 0 4294967295)) = false then 1
  else if l.all (imgOk g) = false then 1
  else if inB l.length 1 29 = false then 2 else 0
def TxnP (w' : World) (base : Nat) (g : Geo) (seq epoch : Int) (l : List Img) (e : Ending) : Prop :=
  (txnE g seq epoch l = 0 ∧ ∃ v, e = .returned (.tuple #[v, .int .i64 0]) ∧ OwR w' noM base 76 v (recsOf seq epoch l)) ∨
  (txnE g seq epoch l ≠ 0 ∧ e = .returned (.tuple #[.slice none 0 0, .int .i64 (txnE g seq epoch l)]))

end Go.Proofs.YteecmgonbdbhdaaGreatDoor
end

/-
Plain laws on records as bytes: what is written is read; no other length is.
-/
section
namespace Go.Proofs.YteecmgonbdbhdaaGreatDoor

theorem recB_len {g : Geo} {r : Rc} (_h : okR g r = true) : (recB r).length = if r.kind = 1 then 14 + r.img.bytes.length else 11 := by
  unfold recB
  rw [List.length_append, rowR_len]
  split
  · rw [imgB_len]; omega
  · rfl
theorem recB_short {g : Geo} {r : Rc} (h : okR g r = true) : 11 ≤ (recB r).length ∧ (recB r).length ≤ 59 := by
  rw [recB_len h]
  split
  · rename_i hk
    rcases (okR_parts h).2 with h' | h' | h'
    · omega
    · have := img_short h'.2.2.2.2.2
      omega
    · omega
  · omega
theorem nums_recB {g : Geo} {r : Rc} (h : okR g r = true) (t : List UInt8) : nums szR (recB r ++ t) = numsOf r := by
  unfold recB
  rw [List.append_assoc]
  exact nums_rowB _ _ _ rfl (fun k a b => rec_fits h k a b)
theorem drop_recB (r : Rc) : (recB r).drop 11 = if r.kind = 1 then imgB r.img else [] := by
  unfold recB
  rw [List.drop_append, rowR_len, List.drop_eq_nil_of_le (by rw [rowR_len]; exact Nat.le_refl _)]
  simp
theorem whatN_whatB {g : Geo} {x : Img} (h : imgOk g x = true) : whatN (whatB x.what) = x.what := by
  obtain ⟨h1, -, h3⟩ := imgOk_parts h
  obtain ⟨-, hd, -⟩ := okG_iff.1 h1
  unfold whatN whatB
  split
  · split at * <;> omega
  · split at * <;> omega
theorem imgB_drop2 (x : Img) : (imgB x).drop 2 = UInt8.ofNat x.bytes.length :: x.bytes := by
  unfold imgB
  have hl : (rowB [x.zone, whatB x.what] [1, 1]).length = 2 := by rw [tot_rowB [x.zone, whatB x.what] [1, 1] rfl]; rfl
  rw [List.drop_append, hl, List.drop_eq_nil_of_le (by rw [hl]; exact Nat.le_refl _)]
  rfl
theorem imgOf_imgB {g : Geo} {x : Img} (h : imgOk g x = true) : imgOf (imgB x) = x := by
  have h1 : nums [1, 1] (imgB x) = [x.zone, whatB x.what] := by
    unfold imgB
    exact nums_rowB [x.zone, whatB x.what] [1, 1] _ rfl (fun k a b => img_fits h k a b)
  have hs := img_short h
  have hp : partN (UInt8.ofNat x.bytes.length :: x.bytes) = x.bytes.length := by
    simp only [partN, List.headD_cons]
    simp
    omega
  unfold imgOf
  rw [h1, imgB_drop2, hp]
  simp [whatN_whatB h]
theorem shown_imgB {g : Geo} {x : Img} (h : imgOk g x = true) : shownOk (imgB x) = true := by
  have hs := img_short h
  have hp : partN (UInt8.ofNat x.bytes.length :: x.bytes) = x.bytes.length := by
    simp only [partN, List.headD_cons]
    simp
    omega
  have hl := imgB_len x
  simp only [shownOk, partOk, imgB_drop2, hp, List.length_cons, Bool.and_eq_true, decide_eq_true_eq]
  omega
theorem parse_recB {g : Geo} {r : Rc} (h : okR g r = true) : parseR (recB r) = r := by
  have hn := nums_recB h []
  rw [List.append_nil] at hn
  unfold parseR
  rw [hn, drop_recB]
  obtain ⟨kind, seq, epoch, at_, of_, ⟨zone, what, bytes⟩⟩ := r
  simp only [numsOf]
  rcases (okR_parts h).2 with h' | h' | h'
  · simp only at h'
    obtain ⟨rfl, rfl, rfl, rfl, rfl, rfl, rfl, rfl⟩ := h'
    simp [noImg]
  · simp only at h'
    obtain ⟨rfl, -, -, -, -, hi⟩ := h'
    simp [imgOf_imgB hi]
  · simp only at h'
    obtain ⟨rfl, -, -, -, rfl, rfl, rfl, rfl⟩ := h'
    simp [noImg]
/-- What is written is read. -/
theorem readR_recB {g : Geo} {r : Rc} (h : okR g r = true) : readR g (recB r) = some r := by
  unfold readR
  rw [parse_recB h, if_pos]
  refine ⟨(recB_short h).1, fun hk => ?_, h, rfl⟩
  rw [drop_recB, if_pos hk]
  rcases (okR_parts h).2 with h' | h' | h'
  · omega
  · exact shown_imgB h'.2.2.2.2.2
  · omega
theorem readR_some {g : Geo} {b : List UInt8} {r : Rc} (h : readR g b = some r) : okR g r = true ∧ recB r = b := by
  unfold readR at h
  split at h
  · rename_i h'
    cases h
    exact h'.2.2
  · cases h
theorem recB_inj {g : Geo} {r q : Rc} (hr : okR g r = true) (hq : okR g q = true) : recB r = recB q ↔ r = q := by
  refine ⟨fun e => ?_, fun e => by rw [e]⟩
  have h1 := readR_recB hr
  rw [e, readR_recB hq] at h1
  exact (Option.some.inj h1).symm
/-- How long bytes say that they are. -/
def recLen (b : List UInt8) : Nat := if b.getD 0 0 = 1 then 14 + (b.getD 13 0).toNat else 11
theorem recLen_recB {g : Geo} {r : Rc} (h : okR g r = true) (t : List UInt8) : recLen (recB r ++ t) = (recB r).length := by
  have hfit := rec_fits h 0 (by simp [numsOf]) (by simp)
  simp only [numsOf, List.getElem_cons_zero] at hfit
  have e1 : limS 1 = 256 := rfl
  rw [recB_len h]
  have h0 : (recB r ++ t).getD 0 0 = UInt8.ofNat (r.kind.toNat % 256) := by
    unfold recB numsOf
    simp [rowB, leB]
  have hk : (recB r ++ t).getD 0 0 = 1 ↔ r.kind = 1 := by
    rw [h0]
    rcases (okR_parts h).2 with h' | h' | h' <;> rw [h'.1] <;> decide
  unfold recLen
  by_cases hk1 : r.kind = 1
  · rw [if_pos (hk.2 hk1), if_pos hk1]
    rcases (okR_parts h).2 with h' | h' | h'
    · omega
    · have hs := img_short h'.2.2.2.2.2
      have h13 : (recB r ++ t).getD 13 0 = UInt8.ofNat r.img.bytes.length := by
        have hd : (recB r ++ t).drop 13 = UInt8.ofNat r.img.bytes.length :: (r.img.bytes ++ t) := by
          have : (recB r ++ t).drop 13 = ((recB r).drop 13) ++ t := by
            rw [List.drop_append_of_le_length]
            rw [recB_len h, if_pos hk1]
            omega
          rw [this, show (13 : Nat) = 11 + 2 from rfl, ← List.drop_drop, drop_recB, if_pos hk1, imgB_drop2]
          rfl
        have := congrArg (fun l : List UInt8 => l.getD 0 0) hd
        simpa [List.getD_eq_getElem?_getD, List.getElem?_drop] using this
      rw [h13]
      simp
      omega
    · omega
  · rw [if_neg (fun h' => hk1 (hk.1 h')), if_neg hk1]
/-- Cut short, they are none. -/
theorem readR_cut {g : Geo} {r : Rc} (h : okR g r = true) {n : Nat} (hn : n < (recB r).length) : readR g ((recB r).take n) = none := by
  cases hq : readR g ((recB r).take n) with
  | none => rfl
  | some q =>
    obtain ⟨h1, h2⟩ := readR_some hq
    have h3 := recLen_recB h1 ((recB r).drop n)
    rw [h2, List.take_append_drop] at h3
    have h4 := recLen_recB h []
    rw [List.append_nil] at h4
    rw [h4, List.length_take] at h3
    omega
/-- With a byte more they are none. -/
theorem readR_more {g : Geo} {r : Rc} (h : okR g r = true) (x : UInt8) : readR g (recB r ++ [x]) = none := by
  cases hq : readR g (recB r ++ [x]) with
  | none => rfl
  | some q =>
    obtain ⟨h1, h2⟩ := readR_some hq
    have h3 := recLen_recB h1 []
    rw [List.append_nil, h2, recLen_recB h [x], List.length_append] at h3
    simp at h3
end Go.Proofs.YteecmgonbdbhdaaGreatDoor
end

/-
casematekeep.Bytes, Image, Rec; casematelaw07.Some.
-/
section
namespace Go.Proofs.YteecmgonbdbhdaaGreatDoor
open Go.RowKit
attribute [local go_sem ↓] Go.wp_at_zero Go.wp_at_succ

theorem take_ext {α : Type} {a b : List α} {k : Nat} (h : a.take k = b.take k) (ha : k < a.length) (hb : k < b.length) (he : a[k] = b[k]) : a.take (k + 1) = b.take (k + 1) := by
  rw [List.take_add_one, List.take_add_one, h, List.getElem?_eq_getElem ha, List.getElem?_eq_getElem hb, he]

set_option maxHeartbeats 1000000 in
theorem bytes_any (v1 v2 : Value) (l1 l2 : List UInt8) (w : World) (M1 M2 : Ms) (h1 : SlR w M1 v1 l1) (h2 : SlR w M2 v2 l2) (hl : l1.length ≤ 1000000000) :
    Calls Tryz.prog 23 #[v1, v2] w fun e w' => e = .returned (.bool (decide (l1 = l2))) ∧ Below w.heap.size w w' := by
  obtain ⟨a1, c1, rfl⟩ := h1.form
  obtain ⟨a2, c2, rfl⟩ := h2.form
  by_cases hlen : l1.length = l2.length
  case neg =>
    have hne : ¬ (l1.length : Int) = l2.length := by omega
    have hR := Lib.hid (show decide (l1 = l2) = false by simp only [decide_eq_false_iff_not]; intro e; exact hlen (by rw [e]))
    have hne' : ((l1.length : Int) != l2.length) = true := by simpa using hne
    clear h1 h2 hlen hne
    go_enter Tryz.func23, Tryz.ntmps23
    go_wp2
    go_ret
    rw [hR.out]
    exact ⟨rfl, Below.refl _ _⟩
  have H1 := Lib.hid h1
  have H2 := Lib.hid h2
  have hlen' : ((l1.length : Int) != l2.length) = false := by simp [hlen]
  have Hlen := Lib.hid hlen
  clear h1 h2 hlen
  go_enter Tryz.func23, Tryz.ntmps23
  go_wp2
  clear hlen'
  go_loopw [5] (fun i wr => ∃ k : Nat, k ≤ l1.length ∧ i = .int .i64 k ∧ Below w.heap.size w wr ∧ Hid (l1.take k = l2.take k)) (fun i _ => l1.length - (intOf i).toNat)
  case atStart => exact ⟨0, Nat.zero_le _, rfl, Below.refl _ _, by simp [Hid]⟩
  case round =>
    obtain ⟨k, hk, rfl, hB, heq⟩ := hrel
    by_cases hlt : k < l1.length
    · have hlt2 : k < l2.length := by rw [← Hlen.out]; exact hlt
      obtain ⟨b1, o1, rfl, -, x1⟩ := u8_at (H1.out.mono (Keep.below hB)) hlt
      obtain ⟨b2, o2, rfl, -, x2⟩ := u8_at (H2.out.mono (Keep.below hB)) hlt2
      go_wp2_with fail
      refine rg_enter [0, 1, 2, 3, 4, 5, 6, 7, 8] (fun w' => w'.cell? ⟨b1, o1 + k, none⟩ = some (.int .u8 l1[k].toNat) ∧ w'.cell? ⟨b2, o2 + k, none⟩ = some (.int .u8 l2[k].toNat)) (by kernel_rfl) ?_
      have hS := Lib.hid (show wr.drew.cell? ⟨b1, o1 + k, none⟩ = some (.int .u8 l1[k].toNat) ∧ wr.drew.cell? ⟨b2, o2 + k, none⟩ = some (.int .u8 l2[k].toNat) from ⟨x1, x2⟩)
      clear x1 x2
      apply rg_take 0 rfl (by kernel_rfl) (fun _ _ _ h => h) (hS.out) rfl
      · (rintro W ⟨s0, s1⟩; go_simp; try rfl)
      · (go_simp; try rfl)
      apply rg_take 1 rfl (by kernel_rfl) (fun _ _ _ h => h) (hS.out) rfl
      · (rintro W ⟨s0, s1⟩; go_simp; try rfl)
      · (go_simp; try rfl)
      apply rg_take 2 rfl (by kernel_rfl) (fun _ _ _ h => h) (hS.out) rfl
      · (rintro W ⟨s0, s1⟩; go_simp; try rfl)
      · (go_simp; try rfl)
      apply rg_take 3 rfl (by kernel_rfl) (fun _ _ _ h => h) (hS.out) rfl
      · (rintro W ⟨s0, s1⟩; go_simp; try rfl)
      · (go_simp; try rfl)
      apply rg_take 4 rfl (by kernel_rfl) (fun _ _ _ h => h) (hS.out) rfl
      · (rintro W ⟨s0, s1⟩; go_simp; try rfl)
      · (go_simp; try rfl)
      apply rg_take 5 rfl (by kernel_rfl) (fun _ _ _ h => h) (hS.out) rfl
      · (rintro W ⟨s0, s1⟩; go_simp; try rfl)
      · (go_simp; try rfl)
      apply rg_take 6 rfl (by kernel_rfl) (fun _ _ _ h => h) (hS.out) rfl
      · (rintro W ⟨s0, s1⟩; go_simp; try rfl)
      · (go_simp; try rfl)
      apply rg_take 7 rfl (by kernel_rfl) (fun _ _ _ h => h) (hS.out) rfl
      · (rintro W ⟨s0, s1⟩; go_simp; try rfl)
      · (go_simp; try rfl)
      apply rg_take 8 rfl (by kernel_rfl) (fun _ _ _ h => h) (hS.out) rfl
      · (rintro W ⟨s0, s1⟩; go_simp; try rfl)
      · (go_simp; try rfl)
      refine rg_done (by kernel_rfl) ?_
      go_wp2
      · have hne : ¬ l1[k] = l2[k] := by
          intro e
          have h : ((l1[k].toNat : Int) != l2[k].toNat) = true := ‹_›
          rw [e] at h
          simp at h
        have hR := Lib.hid (show decide (l1 = l2) = false by simp only [decide_eq_false_iff_not]; intro e; subst e; exact hne rfl)
        go_ret
        rw [hR.out]
        exact ⟨rfl, hB.drew⟩
      · have he : l1[k] = l2[k] := by
          have h : ((l1[k].toNat : Int) != l2[k].toNat) = false := ‹_›
          simp only [bne_eq_false_iff_eq] at h
          exact UInt8.toNat_inj.1 (by omega)
        go_roundw
        case rel => exact ⟨k + 1, by omega, by go_num, hB.drew, Lib.hid (take_ext heq.out hlt hlt2 he)⟩
        case measure => simp [intOf]; omega
    · obtain rfl : k = l1.length := by omega
      have hR := Lib.hid (show decide (l1 = l2) = true by
        simp only [decide_eq_true_eq]
        have h := heq.out
        rw [List.take_length] at h
        rw [h, List.take_of_length_le (by rw [Hlen.out]; exact Nat.le_refl _)])
      go_wp2
      go_ret
      rw [hR.out]
      exact ⟨rfl, hB⟩

set_option maxHeartbeats 4000000 in
theorem kimage_any (x y : Img) (v1 v2 : Value) (w : World) (M1 M2 : Ms) (h1 : SlR w M1 v1 x.bytes) (h2 : SlR w M2 v2 y.bytes) (hl : x.bytes.length ≤ 1000000000) :
    Calls Tryz.prog 53 #[.agg #[.int .i64 x.zone, .int .i64 x.what, v1], .agg #[.int .i64 y.zone, .int .i64 y.what, v2]] w fun e w' => e = .returned (.bool (decide (x = y))) ∧ Below w.heap.size w w' := by
  obtain ⟨z1, n1, l1⟩ := x
  obtain ⟨z2, n2, l2⟩ := y
  simp only at h1 h2 hl ⊢
  obtain ⟨a1, c1, rfl⟩ := h1.form
  obtain ⟨a2, c2, rfl⟩ := h2.form
  have HB := Lib.hid (fun o1 o2 => ((Below.refl w.heap.size w).alloc (Nat.le_refl _) o1).alloc (by simp) o2)
  by_cases hz : z1 = z2
  · subst hz
    by_cases hn : n1 = n2
    · subst hn
      have hE := Lib.hid (show decide ((⟨z1, n1, l1⟩ : Img) = ⟨z1, n1, l2⟩) = decide (l1 = l2) by simp)
      have hby := Lib.hid (fun (w' : World) (hb : Below w.heap.size w w') => bytes_any _ _ l1 l2 w' _ _ (h1.mono (Keep.below hb)) (h2.mono (Keep.below hb)) hl)
      rw [hE.out]
      go_enter Tryz.func53, Tryz.ntmps53
      go_wp2_with (go_at_call 23; go_must (with_reducible refine (hby.out _ (HB.out _ _)).mono ?_); rintro e w1 ⟨rfl, hB1⟩)
      go_ret
      exact ⟨rfl, (HB.out _ _).trans (hB1.mono (HB.out _ _).size)⟩
    · have hE := Lib.hid (show decide ((⟨z1, n1, l1⟩ : Img) = ⟨z1, n2, l2⟩) = false by simp [hn])
      have hn' : (n1 == n2) = false := by simpa using hn
      rw [hE.out]
      clear hn
      go_enter Tryz.func53, Tryz.ntmps53
      go_wp2
      go_ret
      exact ⟨rfl, HB.out _ _⟩
  · have hE := Lib.hid (show decide ((⟨z1, n1, l1⟩ : Img) = ⟨z2, n2, l2⟩) = false by simp [hz])
    have hn' : (z1 == z2) = false := by simpa using hz
    rw [hE.out]
    clear hz
    go_enter Tryz.func53, Tryz.ntmps53
    go_wp2
    go_ret
    exact ⟨rfl, HB.out _ _⟩

theorem some0_any (w : World) : Calls Tryz.prog 27 #[.int .i64 0, .int .i64 0, .int .i64 0, .int .i64 0, .int .i64 0] w fun e w' => e = .returned (gv ⟨1, 1, 0, 14, 1⟩) ∧ Below w.heap.size w w' := by
  have HB := Lib.hid (fun o => (Below.refl w.heap.size w).alloc (Nat.le_refl _) o)
  go_enter Tryz.func27, Tryz.ntmps27
  go_wp2
  refine bodyPost_ret (v := gv ⟨1, 1, 0, 14, 1⟩) (by simp [results, Tryz.results27, go_sem, gv]) rfl ?_
  exact ⟨rfl, HB.out _⟩
end Go.Proofs.YteecmgonbdbhdaaGreatDoor
end

/-
The law's own small parts: Heavy, wakes.
-/
section
namespace Go.Proofs.YteecmgonbdbhdaaGreatDoor
open Go.RowKit
attribute [local go_sem ↓] Go.wp_at_zero Go.wp_at_succ

def heavyB (l : List Img) : Bool := decide (40 < l.length) || l.any fun x => decide (200 < x.bytes.length)
theorem heavy_no {l : List Img} (h : heavyB l = false) : l.length ≤ 40 ∧ ∀ x ∈ l, x.bytes.length ≤ 200 := by
  simp only [heavyB, Bool.or_eq_false_iff, decide_eq_false_iff_not, List.any_eq_false, decide_eq_true_eq] at h
  exact ⟨by omega, fun x hx => by have := h.2 x hx; omega⟩

theorem mk8 (w : World) : (Instr.makeSlice 52 (.int .i64 8) (.int .i64 8)).run Tryz.prog w = .ok (.slice (some ⟨w.heap.size, 0, none⟩) 8 8) (w.alloc (.cells #[.int .u8 0, .int .u8 0, .int .u8 0, .int .u8 0, .int .u8 0, .int .u8 0, .int .u8 0, .int .u8 0] 5)) := by
  obtain ⟨i, h1, h2, h3, h4⟩ := info_parts (show (Tryz.prog.info? 5).map (fun i => (i.zero, i.size, i.bytes)) = some (some (.int .u8 0), 1, 1) by kernel_rfl)
  have := run_make (P := Tryz.prog) w 52 5 i (.int .u8 0) (by kernel_rfl) h1 h2 .i64 .i64 8 8 (by omega) (by omega) (by rw [h4]; omega) (by omega)
  rw [h3] at this
  rw [show madeCells (Value.int IntKind.u8 0).cells (Int.toNat 8 * 1) = #[.int .u8 0, .int .u8 0, .int .u8 0, .int .u8 0, .int .u8 0, .int .u8 0, .int .u8 0, .int .u8 0] by kernel_rfl] at this
  exact this
attribute [local go_sem] mk8
def gW : Geo := ⟨1, 1, 0, 14, 1⟩
def iW : Img := ⟨0, -1, [0, 0, 0, 0, 0, 0, 0, 0]⟩
def rW : Rc := ⟨1, 3, 2, 0, 2, iW⟩
theorem wake_ok : okR gW rW = true := by decide
theorem wake_txn : txnE gW 3 2 [iW] = 0 := by decide
theorem wake_recs : recsOf 3 2 [iW] = [rW, ⟨2, 3, 2, 1, 2, noImg⟩] := by decide
theorem wake_len : (recB rW).length = 22 := by rw [recB_len wake_ok]; rfl
theorem wake_bad : okR gW ⟨0, 1, 0, 0, 0, noImg⟩ = false := by decide

end Go.Proofs.YteecmgonbdbhdaaGreatDoor
end

/-
The reference: the number that bytes begin with; whether a table is right.
-/
section
namespace Go.Proofs.YteecmgonbdbhdaaGreatDoor
open Go.RowKit
attribute [local go_sem ↓] Go.wp_at_zero Go.wp_at_succ

theorem leN_drop {l : List UInt8} {k : Nat} (h : k < l.length) : leN (l.drop k) = l[k].toNat + 256 * leN (l.drop (k + 1)) := by
  rw [List.drop_eq_getElem_cons h]
  rfl
theorem pow_le4 {n : Nat} (h : n ≤ 4) : 256 ^ n ≤ 4294967296 := by
  have := Nat.pow_le_pow_right (n := 256) (by omega) h
  omega

set_option maxRecDepth 100000 in
set_option maxHeartbeats 8000000 in
theorem rget_any (v : Value) (l : List UInt8) (m : Nat) (w : World) (Mi : Ms) (h : SlR w Mi v l) (hm : m ≤ l.length) (hm4 : m ≤ 4) :
    Calls Tryz.prog 82 #[v, .int .i64 m] w fun e w' => e = .returned (.int .i64 (leN (l.take m) : Nat)) ∧ w' = w := by
  obtain ⟨a, c, rfl⟩ := h.form
  have H := Lib.hid h.bare
  have hcap := h.cap
  have hw0 : IntKind.i64.wrap ((m : Int) - 1) = (m : Int) - 1 := by rw [IntKind.wrap_i64]; omega
  have HL := Lib.hid (show (l.take m).length = m by rw [List.length_take]; omega)
  clear h
  go_enter Tryz.func82, Tryz.ntmps82
  go_wp2
  go_loopg [5, 6] m (fun gk s5 s6 wr => ∃ k : Nat, s6 = .int .i64 ((k : Int) - 1) ∧ k ≤ m ∧ k ≤ gk ∧ wr = w ∧ s5 = .int .i64 (leN ((l.take m).drop k) : Nat))
  case atStart => exact ⟨m, rfl, Nat.le_refl _, Nat.le_refl _, rfl, by rw [List.drop_eq_nil_of_le (by rw [HL.out]; exact Nat.le_refl _)]; rfl⟩
  case round =>
    obtain ⟨k, rfl, hkl, hgk, rfl, rfl⟩ := hrel
    by_cases hk : k = 0
    · subst hk
      go_wp2
      go_ret
      exact ⟨rfl, rfl⟩
    · obtain ⟨j, rfl⟩ : ∃ j, k = j + 1 := ⟨k - 1, by omega⟩
      have hj : j < l.length := by omega
      obtain ⟨b, off, rfl, -, x1⟩ := u8_at H.out hj
      have hge : (0 : Int) ≤ ((j + 1 : Nat) : Int) - 1 := by omega
      have hjj : ((j + 1 : Nat) : Int) - 1 = (j : Int) := by omega
      rw [hjj] at hge ⊢
      clear hjj
      have hlt := leN_lt ((l.take m).drop (j + 1))
      rw [List.length_drop, HL.out] at hlt
      have hp := pow_le4 (show m - (j + 1) ≤ 4 by omega)
      have hb := l[j].toNat_lt
      have hstep := leN_drop (l := l.take m) (k := j) (by rw [HL.out]; omega)
      rw [List.getElem_take] at hstep
      obtain ⟨N, hN⟩ : ∃ N, N = leN ((l.take m).drop (j + 1)) := ⟨_, rfl⟩
      rw [← hN] at hlt hstep ⊢
      have hNl : N < 4294967296 := by omega
      have hw1 : IntKind.i64.wrap ((N : Int) * 256) = (N : Int) * 256 := by rw [IntKind.wrap_i64]; omega
      have hw1' : IntKind.i64.wrap (256 * (N : Int)) = 256 * (N : Int) := by rw [IntKind.wrap_i64]; omega
      have hw2 : IntKind.i64.wrap (l[j].toNat : Int) = l[j].toNat := by rw [IntKind.wrap_i64]; omega
      have hw3 : IntKind.i64.wrap (256 * (N : Int) + l[j].toNat) = 256 * (N : Int) + l[j].toNat := by rw [IntKind.wrap_i64]; omega
      have hw4 : IntKind.i64.wrap ((j : Int) - 1) = (j : Int) - 1 := by rw [IntKind.wrap_i64]; omega
      have hst := Lib.hid hstep
      clear hN hlt hp hstep hb hk
      go_wp2
      go_roundg j
      case measure => omega
      case rel => exact ⟨j, rfl, by omega, Nat.le_refl _, rfl, by rw [hst.out]; congr 1; omega⟩

/-- Whether a table of so many blocks is right. -/
def refT (g : Geo) (l : List Ent) : Bool := decide ((l.length : Int) = g.d + 1) && (!lostAt l g.d.toNat && l.all entOk)
theorem refT_okT {g : Geo} (h : okG g = true) (l : List Ent) : refT g l = okT g l := by
  simp only [refT, okT, h, Bool.true_and]
  cases decide ((l.length : Int) = g.d + 1) <;> cases lostAt l g.d.toNat <;> cases l.all entOk <;> rfl

set_option maxRecDepth 100000 in
set_option maxHeartbeats 8000000 in
theorem rtab_any (g : Geo) (v : Value) (l : List Ent) (w : World) (Mi : Ms) (h : SlR w Mi v l) (hl : l.length ≤ 1000000) (hg : okG g = true) :
    Calls Tryz.prog 114 #[gv g, .agg #[v]] w fun e w' => e = .returned (.bool (okT g l)) ∧ Below w.heap.size w w' := by
  rw [← refT_okT hg]
  obtain ⟨a, c, rfl⟩ := h.form
  obtain ⟨z, d, sp, sl, an⟩ := g
  obtain ⟨-, hd, -⟩ := okG_iff.1 hg
  obtain ⟨n, rfl⟩ : ∃ k : Nat, d = k := ⟨d.toNat, by simp only at hd; omega⟩
  have hd1 : (1 : Int) ≤ n := hd.1
  have hd2 : (n : Int) ≤ 4 := hd.2
  have hd0 : (0 : Int) ≤ n := by omega
  have hb1 := (Below.refl w.heap.size w).alloc (Nat.le_refl _) (.cells #[.int .i64 z, .int .i64 n, .int .i64 sp, .int .i64 sl, .int .i64 an] 23)
  have hb2 := hb1.alloc (by simp) (.cells #[.slice a l.length c] 85)
  have hT := Blk.new (w.alloc (.cells #[.int .i64 z, .int .i64 n, .int .i64 sp, .int .i64 sl, .int .i64 an] 23)) 85 #[.slice a l.length c]
  simp only [World.size_alloc] at hT
  have HB := Lib.hid hb2
  have HT := Lib.hid hT
  have H := Lib.hid (h.bare.mono (Keep.below hb2))
  have hw1 : IntKind.i64.wrap ((n : Int) + 1) = n + 1 := by rw [IntKind.wrap_i64]; omega
  unfold gv
  simp only
  clear hb1 hb2 hT hd hg h
  by_cases hn : l.length = n + 1
  · have hn' : ((l.length : Int) != (n : Int) + 1) = false := by simp; omega
    have hN := Lib.hid hn
    have hkl : n < l.length := by omega
    have hkl' : (n : Int) < l.length := by omega
    have hL : lostAt l n = l[n].lost := by simp [lostAt, List.getElem?_eq_getElem hkl]
    obtain ⟨bb, off, rfl, -, x1, x2, x3⟩ := ent_at H.out hkl
    cases hlo : l[n].lost with
    | true =>
      have hE := Lib.hid (show refT ⟨z, n, sp, sl, an⟩ l = false by simp [refT, hL, hlo])
      rw [hlo] at x3
      clear hlo hL hn
      go_enter Tryz.func114, Tryz.ntmps114
      go_wp2
      go_ret
      rw [hE.out]
      exact ⟨rfl, HB.out⟩
    | false =>
      have hE := Lib.hid (show refT ⟨z, n, sp, sl, an⟩ l = l.all entOk by
        have : ((l.length : Int) = (n : Int) + 1) := by omega
        simp [refT, hL, hlo, this])
      rw [hlo] at x3
      clear hlo hL hn
      go_enter Tryz.func114, Tryz.ntmps114
      go_wp2
      clear x1 x2 x3
      obtain ⟨W, hW⟩ : ∃ W, W = (w.alloc (.cells #[.int .i64 z, .int .i64 n, .int .i64 sp, .int .i64 sl, .int .i64 an] 23)).alloc (.cells #[.slice (some ⟨bb, off, none⟩) l.length c] 85) := ⟨_, rfl⟩
      rw [← hW] at HB HT H ⊢
      clear hW
      go_loopg [5] l.length (fun gk s5 wr => ∃ k : Nat, s5 = .int .i64 k ∧ k ≤ l.length ∧ l.length - k ≤ gk ∧ wr = W ∧ Hid (∀ j (hj : j < l.length), j < k → entOk l[j] = true))
      case atStart => exact ⟨0, rfl, Nat.zero_le _, by omega, rfl, Lib.hid fun j _ hj => absurd hj (Nat.not_lt_zero _)⟩
      case round =>
        obtain ⟨k, rfl, hk, hgk, rfl, hA⟩ := hrel
        obtain ⟨t1, t2, t3⟩ := HT.out.all
        by_cases hlt : k < l.length
        · obtain ⟨bb2, off2, e2, -, x1, x2, x3⟩ := ent_at H.out hlt
          cases e2
          have hlt' : (k : Int) < l.length := by omega
          have hi1 := fun w => rf8in_any l[k].stamp 0 4294967295 w
          have hi2 := fun w => rf8in_any l[k].sum 0 4294967295 w
          have hq : entOk l[k] = (inB l[k].stamp 0 4294967295 && inB l[k].sum 0 4294967295) := rfl
          cases h1 : inB l[k].stamp 0 4294967295 with
          | false =>
            have hE2 := Lib.hid (show l.all entOk = false by rw [List.all_eq_false]; exact ⟨l[k], List.getElem_mem hlt, by rw [hq, h1]; simp⟩)
            rw [h1] at hi1
            clear h1 hq hi2
            go_wp2_with (go_at_call 25; go_must (with_reducible refine (hi1 _).mono ?_); rintro e w1 ⟨rfl, rfl⟩)
            go_ret
            rw [hE.out, hE2.out]
            exact ⟨rfl, HB.out⟩
          | true =>
            cases h2 : inB l[k].sum 0 4294967295 with
            | false =>
              have hE2 := Lib.hid (show l.all entOk = false by rw [List.all_eq_false]; exact ⟨l[k], List.getElem_mem hlt, by rw [hq, h1, h2]; simp⟩)
              rw [h1] at hi1
              rw [h2] at hi2
              clear h1 h2 hq
              go_wp2_with (go_at_call 25; go_must (first | (with_reducible refine (hi1 _).mono ?_) | (with_reducible refine (hi2 _).mono ?_)); rintro e w1 ⟨rfl, rfl⟩)
              go_ret
              rw [hE.out, hE2.out]
              exact ⟨rfl, HB.out⟩
            | true =>
              have hA2 := Lib.hid (show ∀ j (hj : j < l.length), j < k + 1 → entOk l[j] = true from fun j hj hjk => by
                by_cases e : j = k
                · subst e; rw [hq, h1, h2]; rfl
                · exact hA.out j hj (by omega))
              rw [h1] at hi1
              rw [h2] at hi2
              clear h1 h2 hq
              go_wp2_with (go_at_call 25; go_must (first | (with_reducible refine (hi1 _).mono ?_) | (with_reducible refine (hi2 _).mono ?_)); rintro e w1 ⟨rfl, rfl⟩)
              go_roundg (l.length - (k + 1))
              case measure => omega
              case rel => exact ⟨k + 1, by go_num, by omega, by omega, rfl, hA2⟩
        · obtain rfl : k = l.length := by omega
          have hE2 := Lib.hid (show l.all entOk = true by
            rw [List.all_eq_true]
            intro x hx
            obtain ⟨j, hj, rfl⟩ := List.getElem_of_mem hx
            exact hA.out j hj hj)
          go_wp2
          go_ret
          rw [hE.out, hE2.out]
          exact ⟨rfl, HB.out⟩
  · have hn' : ((l.length : Int) != (n : Int) + 1) = true := by simp; omega
    have hE := Lib.hid (show refT ⟨z, n, sp, sl, an⟩ l = false by
      have : ¬ ((l.length : Int) = (n : Int) + 1) := by omega
      simp [refT, this])
    clear hn
    go_enter Tryz.func114, Tryz.ntmps114
    go_wp2
    go_ret
    rw [hE.out]
    exact ⟨rfl, HB.out⟩
end Go.Proofs.YteecmgonbdbhdaaGreatDoor
end

/-
The reference: the table that bytes are.
-/
section
namespace Go.Proofs.YteecmgonbdbhdaaGreatDoor
open Go.RowKit
attribute [local go_sem ↓] Go.wp_at_zero Go.wp_at_succ

/-- What nine bytes say of being lost. -/
def lostV (x : List UInt8) : Int := (nums [4, 4, 1] x).getD 2 0
def lostAll (n : Nat) (b : List UInt8) : Prop := ∀ i, i < n → lostV (b.drop (9 * i)) ≤ 1
theorem lostV_at {x : List UInt8} (h : 9 ≤ x.length) : lostV x = (x[8].toNat : Int) := by
  have e : (x.drop 8).take 1 = [x[8]] := by
    rw [List.drop_eq_getElem_cons (by omega)]
    rfl
  show (((leN (((x.drop (Int.toNat 4)).drop (Int.toNat 4)).take (Int.toNat 1)) : Nat) : Int)) = _
  rw [List.drop_drop]
  show (((leN ((x.drop 8).take 1) : Nat) : Int)) = _
  rw [e]
  simp [leN]
theorem entB_iff {x : List UInt8} (h : 9 ≤ x.length) : entB (entOf x) = x.take 9 ↔ lostV x ≤ 1 := by
  obtain ⟨a, b, c, hn, he⟩ := nums3 x
  have hl : lostV x = c := by simp [lostV, hn]
  have hr := rowB_nums [4, 4, 1] x (by simpa [tot] using h)
  rw [hn] at hr
  have hf := nums_fit [4, 4, 1] x (by decide)
  rw [hl, he]
  constructor
  · intro e
    have h9 : (x.take 9).length = 9 := by rw [List.length_take]; omega
    have e2 : rowB [a, b, lostN (c == 1)] [4, 4, 1] = rowB [a, b, c] [4, 4, 1] := by
      rw [hr]
      exact e
    have f0 := hf 0 (by rw [hn]; simp) (by simp)
    have f1 := hf 1 (by rw [hn]; simp) (by simp)
    have f2 := hf 2 (by rw [hn]; simp) (by simp)
    simp only [hn] at f0 f1 f2
    have n1 := nums_rowB [a, b, lostN (c == 1)] [4, 4, 1] [] rfl (by
      intro k h1 _
      match k, h1 with
      | 0, _ => exact f0
      | 1, _ => exact f1
      | 2, _ => exact ⟨.inl rfl, by show 0 ≤ lostN _; unfold lostN; split <;> decide, by show lostN _ < limS 1; unfold lostN; split <;> decide⟩)
    have n2 := nums_rowB [a, b, c] [4, 4, 1] [] rfl (by
      intro k h1 _
      match k, h1 with
      | 0, _ => exact f0
      | 1, _ => exact f1
      | 2, _ => exact f2)
    rw [e2, n2] at n1
    injection n1 with _ n1
    injection n1 with _ n1
    injection n1 with n1
    rw [n1]
    unfold lostN
    split <;> decide
  · intro hc
    have f2 := hf 2 (by rw [hn]; simp) (by simp)
    simp only [hn] at f2
    have hc0 : 0 ≤ c := f2.2.1
    have : lostN (c == 1) = c := by
      unfold lostN
      by_cases h1 : c = 1
      · simp [h1]
      · have : c = 0 := by omega
        simp [this]
    show rowB [a, b, lostN (c == 1)] [4, 4, 1] = x.take 9
    rw [this, hr]
    rfl
theorem tblB_iff : ∀ (n : Nat) (b : List UInt8), 9 * n ≤ b.length → (tblB (entsOf n b) = b.take (9 * n) ↔ lostAll n b)
  | 0, b, _ => ⟨fun _ i hi => absurd hi (Nat.not_lt_zero _), fun _ => by simp [entsOf, tblB]⟩
  | n + 1, b, h => by
    have ih := tblB_iff n (b.drop 9) (by rw [List.length_drop]; omega)
    have e1 : tblB (entsOf (n + 1) b) = entB (entOf b) ++ tblB (entsOf n (b.drop 9)) := by simp [entsOf, tblB]
    have e2 : b.take (9 * (n + 1)) = b.take 9 ++ (b.drop 9).take (9 * n) := by
      rw [show 9 * (n + 1) = 9 + 9 * n by omega, List.take_add]
    rw [e1, e2]
    constructor
    · intro e
      have h1 := List.append_inj e (by rw [entB_len, List.length_take]; omega)
      intro i hi
      cases i with
      | zero => simpa using (entB_iff (by omega)).1 h1.1
      | succ i =>
        have := ih.1 h1.2 i (by omega)
        rw [List.drop_drop] at this
        rwa [show 9 * (i + 1) = 9 + 9 * i by omega]
    · intro hall
      rw [(entB_iff (by omega)).2 (by simpa using hall 0 (by omega)), ih.2 (fun i hi => by
        have := hall (i + 1) (by omega)
        rw [List.drop_drop]
        rwa [show 9 * (i + 1) = 9 + 9 * i by omega] at this)]
/-- The reference's reading is the program's. -/
theorem readT_ref {g : Geo} {b : List UInt8} (hl : b.length = 9 * (g.d + 1).toNat) (hall : lostAll (g.d + 1).toNat b) : readT g b = if okT g (entsOf (g.d + 1).toNat b) = true then some (entsOf (g.d + 1).toNat b) else none := by
  have := (tblB_iff (g.d + 1).toNat b (by omega)).2 hall
  rw [List.take_of_length_le (by omega)] at this
  unfold readT
  simp only [this, and_true]
theorem readT_bad {g : Geo} {b : List UInt8} (h : b.length ≠ 9 * (g.d + 1).toNat ∨ ¬ lostAll (g.d + 1).toNat b) : readT g b = none := by
  unfold readT
  rw [if_neg]
  rintro ⟨-, h2⟩
  have hl := congrArg List.length h2
  rw [tblB_len, entsOf_len] at hl
  rcases h with h | h
  · exact h hl.symm
  · apply h
    apply (tblB_iff (g.d + 1).toNat b (by omega)).1
    rw [h2, List.take_of_length_le (by omega)]

def RreadTP (w' : World) (base : Nat) (g : Geo) (b : List UInt8) (e : Ending) : Prop :=
  (readT g b = none ∧ e = .returned (.tuple #[.agg #[.slice none 0 0], .bool false])) ∨
  (∃ v l, readT g b = some l ∧ e = .returned (.tuple #[.agg #[v], .bool true]) ∧ OwR w' noM base 109 v l)
end Go.Proofs.YteecmgonbdbhdaaGreatDoor
end

/-
The reference: ReadTable, walked.
-/
section
namespace Go.Proofs.YteecmgonbdbhdaaGreatDoor
open Go.RowKit
attribute [local go_sem ↓] Go.wp_at_zero Go.wp_at_succ

theorem rget4 (v : Value) (l : List UInt8) (w : World) (Mi : Ms) (h : SlR w Mi v l) (hm : 4 ≤ l.length) :
    Calls Tryz.prog 82 #[v, .int .i64 4] w fun e w' => e = .returned (.int .i64 (leN (l.take 4) : Nat)) ∧ w' = w := rget_any v l 4 w Mi h hm (by omega)
theorem SlR.dropU' {w : World} {M : Ms} {b off n c i : Nat} {l : List UInt8} (h : SlR w M (.slice (some ⟨b, off, none⟩) n c) l) (hi : i ≤ l.length) (hc : ¬ c = i) : SlR w M (.slice (some ⟨b, off + i, none⟩) (n - i) (c - i)) (l.drop i) := by
  have := h.dropU hi
  rwa [if_neg hc] at this

set_option maxRecDepth 100000 in
set_option maxHeartbeats 16000000 in
theorem rreadT_any (g : Geo) (v : Value) (b : List UInt8) (w : World) (Mi : Ms) (h : SlR w Mi v b) (hg : okG g = true) :
    Calls Tryz.prog 108 #[gv g, v] w fun e w' => RreadTP w' w.heap.size g b e ∧ Below w.heap.size w w' := by
  obtain ⟨a, c, rfl⟩ := h.form
  have hcap := h.cap
  obtain ⟨z, d, sp, sl, an⟩ := g
  have HGK := Lib.hid hg
  obtain ⟨-, hd, -⟩ := okG_iff.1 hg
  obtain ⟨n, rfl⟩ : ∃ k : Nat, d = k := ⟨d.toNat, by simp only at hd; omega⟩
  have hk1 : (1 : Int) ≤ n := hd.1
  have hk2 : (n : Int) ≤ 4 := hd.2
  have hb1 := (Below.refl w.heap.size w).alloc (Nat.le_refl _) (.cells #[.int .i64 z, .int .i64 n, .int .i64 sp, .int .i64 sl, .int .i64 an] 23)
  have hb2 := hb1.alloc (by simp) (.cells #[.slice none 0 0] 85)
  have hG := (Blk.new w 23 #[.int .i64 z, .int .i64 n, .int .i64 sp, .int .i64 sl, .int .i64 an]).alloc (.cells #[.slice none 0 0] 85)
  have hR := Blk.new (w.alloc (.cells #[.int .i64 z, .int .i64 n, .int .i64 sp, .int .i64 sl, .int .i64 an] 23)) 85 #[.slice none 0 0]
  simp only [World.size_alloc] at hR
  have HB := Lib.hid hb2
  have HG := Lib.hid hG
  have HR := Lib.hid hR
  have H := Lib.hid h.bare
  have hw0 : IntKind.i64.wrap ((n : Int) + 1) = n + 1 := by rw [IntKind.wrap_i64]; omega
  have hw9 : IntKind.i64.wrap (9 * ((n : Int) + 1)) = 9 * ((n : Int) + 1) := by rw [IntKind.wrap_i64]; omega
  have htn : ((n : Int) + 1).toNat = n + 1 := by omega
  have HTN := Lib.hid htn
  unfold gv
  simp only
  clear hb1 hb2 hG hR h hd hg htn
  by_cases hlen : b.length = 9 * (n + 1)
  case neg =>
    have hN := Lib.hid (readT_bad (g := ⟨z, n, sp, sl, an⟩) (b := b) (.inl (by simp only [HTN.out]; exact hlen)))
    have hne : ((b.length : Int) != 9 * ((n : Int) + 1)) = true := by simp only [bne_iff_ne, ne_eq]; omega
    have hR := HR.out
    obtain ⟨r1, r2, r3⟩ := hR.all
    have hx := hR.cell 0
    clear hlen hR
    go_enter Tryz.func108, Tryz.ntmps108
    go_wp2
    refine bodyPost_ret (v := .tuple #[.agg #[.slice none 0 0], .bool false]) (by simp [results, Tryz.results108, go_sem, hx]) rfl ?_
    exact ⟨.inl ⟨hN.out, rfl⟩, HB.out⟩
  have hne : ((b.length : Int) != 9 * ((n : Int) + 1)) = false := by simp only [bne_eq_false_iff_eq]; omega
  have HLn := Lib.hid hlen
  have hpos : 0 < b.length := by omega
  obtain ⟨bb, off, rfl, -, -⟩ := u8_at H.out hpos
  obtain ⟨-, hc1, hc2⟩ := hcap
  clear hlen
  go_enter Tryz.func108, Tryz.ntmps108
  go_wp2_with fail
  clear hne
  obtain ⟨W, hW⟩ : ∃ W, W = (((w.alloc (.cells #[.int .i64 z, .int .i64 n, .int .i64 sp, .int .i64 sl, .int .i64 an] 23)).alloc (.cells #[.slice none 0 0] 85)).alloc (.cells #[.slice none 0 0] 85)) := ⟨_, rfl⟩
  have HW : Hid (Blk W w.heap.size 23 #[.int .i64 z, .int .i64 n, .int .i64 sp, .int .i64 sl, .int .i64 an] ∧ Blk W (w.heap.size + 1) 85 #[.slice none 0 0] ∧ Blk W (w.heap.size + 1 + 1) 85 #[.slice none 0 0] ∧ Below w.heap.size w W) := Lib.hid (by
    rw [hW]
    refine ⟨HG.out.alloc _, HR.out.alloc _, ?_, HB.out.alloc HB.out.size _⟩
    have := Blk.new ((w.alloc (.cells #[.int .i64 z, .int .i64 n, .int .i64 sp, .int .i64 sl, .int .i64 an] 23)).alloc (.cells #[.slice none 0 0] 85)) 85 #[.slice none 0 0]
    simpa using this)
  rw [← hW]
  clear hW HB HG HR
  go_loopg [7] (n + 1) (fun gk s7 wr => ∃ k : Nat, s7 = .int .i64 k ∧ k ≤ n + 1 ∧ n + 1 - k ≤ gk ∧ Hid ((∀ i, i < k → lostV (b.drop (9 * i)) ≤ 1) ∧ (∃ vE, Blk wr (w.heap.size + 1 + 1) 85 #[vE] ∧ OwR wr noM w.heap.size 109 vE (entsOf k b)) ∧
      Blk wr w.heap.size 23 #[.int .i64 z, .int .i64 n, .int .i64 sp, .int .i64 sl, .int .i64 an] ∧ Blk wr (w.heap.size + 1) 85 #[.slice none 0 0] ∧ Below w.heap.size w wr))
  case atStart => exact ⟨0, rfl, Nat.zero_le _, by omega, Lib.hid ⟨fun i hi => absurd hi (Nat.not_lt_zero _), ⟨_, HW.out.2.2.1, OwR.nil _ _ _ _⟩, HW.out.1, HW.out.2.1, HW.out.2.2.2⟩⟩
  case round =>
    obtain ⟨k, rfl, hkl, hgk, hI⟩ := hrel
    obtain ⟨w0, rfl⟩ : ∃ w0, w0 = wr := ⟨_, rfl⟩
    obtain ⟨hA, ⟨vE, hQ, hoE⟩, hG, hR, hB⟩ := hI.out
    obtain ⟨g1, g2, g3⟩ := hG.all
    by_cases hlt : k < n + 1
    · have hle : (k : Int) ≤ n := by omega
      have hln : 9 * k + 9 ≤ b.length := by have := HLn.out; omega
      have hln' : ((9 * k : Nat) : Int) ≤ b.length := by omega
      have hlnc : ((9 * k : Nat) : Int) ≤ c := by omega
      have hbc : (b.length : Int) ≤ c := by omega
      have hw1 : IntKind.i64.wrap (9 * (k : Int)) = ((9 * k : Nat) : Int) := by rw [IntKind.wrap_i64]; omega
      have hck : ¬ c = 9 * k := by omega
      have hc4 : ¬ c - 9 * k = 4 := by omega
      have h8 : 8 < b.length - 9 * k := by omega
      have h8' : (8 : Int) < ((b.length - 9 * k : Nat) : Int) := by omega
      have h4' : (4 : Int) ≤ ((b.length - 9 * k : Nat) : Int) := by omega
      have h4c : (4 : Int) ≤ ((c - 9 * k : Nat) : Int) := by omega
      have hlc : ((b.length - 9 * k : Nat) : Int) ≤ ((c - 9 * k : Nat) : Int) := by omega
      have hsx := (H.out.mono (Keep.below hB)).dropU' (i := 9 * k) (by omega) hck
      have hxl : (b.drop (9 * k)).length = b.length - 9 * k := List.length_drop
      obtain ⟨R, hR0⟩ : ∃ R, R = b.drop (9 * k) := ⟨_, rfl⟩
      rw [← hR0] at hsx hxl
      have hR9 : 9 ≤ R.length := by omega
      have hsx4 := hsx.dropU' (i := 4) (by omega) hc4
      obtain ⟨b8, o8, e8, -, x8⟩ := u8_at hsx (show 8 < R.length by omega)
      cases e8
      have hlv := lostV_at (x := R) hR9
      obtain ⟨y8, hy8⟩ : ∃ y : UInt8, y = R[8] := ⟨_, rfl⟩
      rw [← hy8] at x8 hlv
      have hg1 := Lib.hid (rget4 _ R w0.drew noM (hsx.mono (Keep.below (below_drew w0))) (by omega))
      have hg2 := Lib.hid (rget4 _ (R.drop 4) w0.drew noM (hsx4.mono (Keep.below (below_drew w0))) (by rw [List.length_drop]; omega))
      have HS := Lib.hid (And.intro hsx (And.intro hR0 (And.intro hxl hlv)))
      have HI := Lib.hid (And.intro hA (And.intro hQ (And.intro hoE (And.intro hG (And.intro hR hB)))))
      obtain ⟨r1, r2, r3⟩ := hR.all
      obtain ⟨q1, q2, q3⟩ := hQ.all
      by_cases hbig : 1 < y8.toNat
      · have hbig' : (1 : Int) < y8.toNat := by omega
        have hN := Lib.hid (readT_bad (g := ⟨z, n, sp, sl, an⟩) (b := b) (.inr (by
          simp only [HTN.out]
          intro hall
          have := hall k hlt
          rw [← hR0, hlv] at this
          omega)))
        have hx := (hR.set_ 0 (.slice none 0 0)).cell 0
        have HB5 := Lib.hid hB
        clear hA hQ hoE hG hR hB hI hsx hsx4 hR0 hy8 hR9 hxl hlv
        go_wp2
        refine bodyPost_ret (v := .tuple #[.agg #[.slice none 0 0], .bool false]) (by simp [results, Tryz.results108, go_sem, hx]) rfl ?_
        exact ⟨.inl ⟨hN.out, rfl⟩, HB5.out.setCell (p := ⟨w.heap.size + 1, 0, none⟩) (Nat.le_succ _) _⟩
      · have hbig' : ¬ (1 : Int) < y8.toNat := by omega
        clear hA hQ hoE hG hR hB hI hsx hsx4 hR0 hy8 hR9 hxl hlv
        have HW0 := Lib.hid (show bb < w.heap.size from by
          obtain ⟨b', o', e', -, x'⟩ := u8_at H.out hpos
          cases e'
          exact World.block_lt_of_cell? _ _ x')
        have hS := Lib.hid (show w0.drew.cell? ⟨w.heap.size + 1 + 1, 0, none⟩ = some vE ∧ w0.drew.cell? ⟨bb, off + 9 * k + 8, none⟩ = some (.int .u8 y8.toNat) from ⟨q1 0, x8⟩)
        go_wp2_with fail
        clear g1 g2 g3 r1 r2 r3 q1 q2 q3 x8
        refine rp_enter [1, 9] (fun V => V.cell? ⟨w.heap.size + 1 + 1, 0, none⟩ = some vE ∧ V.cell? ⟨bb, off + 9 * k + 8, none⟩ = some (.int .u8 y8.toNat)) (by kernel_rfl) ?_
        apply rp_pure 0 rfl (by kernel_rfl) (fun _ _ _ h => h) rfl
        · (intro W'; go_simp; try rfl)
        · (go_simp; try rfl)
        apply rp_take 1 rfl (by kernel_rfl) (fun _ _ _ h => h) (hS.out) rfl
        · (rintro W' ⟨s0, s1⟩; go_simp; try rfl)
        · (go_simp; try rfl)
        apply rp_pure 2 rfl (by kernel_rfl) (fun _ _ _ h => h) rfl
        · (intro W'; go_simp; try rfl)
        · (go_simp; try rfl)
        apply rp_pure 4 rfl (by kernel_rfl) (fun _ _ _ h => h) rfl
        · (intro W'; go_simp; try rfl)
        · (go_simp; try rfl)
        apply rp_pure 5 rfl (by kernel_rfl) (fun _ _ _ h => h) rfl
        · (intro W'; go_simp; try rfl)
        · (go_simp; try rfl)
        apply rp_pure 7 rfl (by kernel_rfl) (fun _ _ _ h => h) rfl
        · (intro W'; go_simp; try rfl)
        · (go_simp; try rfl)
        apply rp_pure 8 rfl (by kernel_rfl) (fun _ _ _ h => h) rfl
        · (intro W'; go_simp; try rfl)
        · (go_simp; try rfl)
        apply rp_take 9 rfl (by kernel_rfl) (fun _ _ _ h => h) (hS.out) rfl
        · (rintro W' ⟨s0, s1⟩; go_simp; try rfl)
        · (go_simp; try rfl)
        apply rp_pure 10 rfl (by kernel_rfl) (fun _ _ _ h => h) rfl
        · (intro W'; go_simp; try rfl)
        · (go_simp; try rfl)
        refine rp_only 3 (by kernel_rfl) rfl (fun K hK => ?_)
        go_simp
        ((with_reducible refine hg1.out.mono ?_); rintro e w2 ⟨rfl, rfl⟩)
        refine hK _ _ ⟨fun _ h => h, ?_⟩; clear hK K
        refine rp_only 6 (by kernel_rfl) rfl (fun K hK => ?_)
        go_simp
        ((with_reducible refine hg2.out.mono ?_); rintro e w2 ⟨rfl, rfl⟩)
        refine hK _ _ ⟨fun _ h => h, ?_⟩; clear hK K
        obtain ⟨n1, hn1⟩ : ∃ n1 : Int, n1 = ((leN (R.take 4) : Nat) : Int) := ⟨_, rfl⟩
        obtain ⟨n2, hn2⟩ : ∃ n2 : Int, n2 = ((leN ((R.drop 4).take 4) : Nat) : Int) := ⟨_, rfl⟩
        rw [← hn1, ← hn2]
        have HEn := Lib.hid (show entOf R = (⟨n1, n2, (y8.toNat : Int) == 1⟩ : Ent) by rw [hn1, hn2, ← HS.out.2.2.2]; rfl)
        clear hn1 hn2 hg1 hg2
        apply rp_pure 11 rfl (by kernel_rfl) (fun _ _ _ h => h) rfl
        · (intro W'; go_simp; try rfl)
        · (go_simp; try rfl)
        refine rp_only 12 (by kernel_rfl) rfl (fun K hK => ?_)
        go_simp
        have hbA := (Below.refl w0.heap.size w0).alloc (Nat.le_refl _) (.cells #[.int .i64 n1, .int .i64 n2, .bool ((y8.toNat : Int) == 1)] 109)
        have hbD := hbA.drew
        have hS2 := Lib.hid (And.intro (below_cell hbD hS.out.1) (below_cell hbD hS.out.2))
        obtain ⟨iA, iQ, iE, iG, iR, iB⟩ := HI.out
        have O3 := Lib.hid (iE.below hbD)
        have HB3 := Lib.hid (iB.trans (hbD.mono iB.size))
        have HBD := Lib.hid hbD
        have hS3 := Lib.hid (show SlR (w0.alloc (.cells #[.int .i64 n1, .int .i64 n2, .bool ((y8.toNat : Int) == 1)] 109)).drew (fun b => noM b ∨ vE.ownBlock = some b) (.slice (some ⟨w0.heap.size, 0, none⟩) 1 1) [(⟨n1, n2, (y8.toNat : Int) == 1⟩ : Ent)] from
          SlR.one ((Blk.new w0 109 #[.int .i64 n1, .int .i64 n2, .bool ((y8.toNat : Int) == 1)]).drew) rfl (fun h' => h'.elim (fun h => h) (fun h => by have := iE.own_lt h; omega)))
        have hlk : (entsOf k b).length + 1 ≤ 1000000000 := by rw [entsOf_len]; omega
        have hBt : bb ≠ w.heap.size + 1 + 1 ∧ vE.ownBlock ≠ some bb := ⟨by have h1 := HW0.out; omega, fun e => by have h1 := HW0.out; have h2 := iE.own_ge e; omega⟩
        have HBt := Lib.hid hBt
        clear iA iQ iE iG iR iB hbA hbD hS hBt
        refine hK _ _ ⟨fun _ _ => hS2.out, ?_⟩; clear hK K
        refine rp_only 13 (by kernel_rfl) rfl (fun K hK => ?_)
        refine step_append_R (α := Ent) (M := noM) (base := w.heap.size) (l := entsOf k b) (m := [(⟨n1, n2, (y8.toNat : Int) == 1⟩ : Ent)]) rfl (by rfl) tyE (by rfl) O3.out (by rfl) hS3.out (by simpa using hlk) HB3.out.size ?_
        intro v4 w4 ho4 hg4 hat4
        obtain ⟨L4, hL4⟩ : ∃ L4, L4 = entsOf k b ++ [(⟨n1, n2, (y8.toNat : Int) == 1⟩ : Ent)] := ⟨_, rfl⟩
        rw [← hL4] at ho4
        have HL4 := Lib.hid hL4
        clear hL4
        obtain ⟨A4, C4, rfl⟩ := ho4.form
        obtain ⟨iA, iQ, iE, iG, iR, iB⟩ := HI.out
        have Q3 := iQ.below HBD.out
        have Q4 := Q3.grown hg4 (fun e => O3.out.ne_ Q3 (by decide) e.symm)
        have G3 := iG.below HBD.out
        have G4 := Lib.hid (G3.grown hg4 (fun e => O3.out.ne_ G3 (by decide) e.symm))
        have R3 := iR.below HBD.out
        have R4 := Lib.hid (R3.grown hg4 (fun e => O3.out.ne_ R3 (by decide) e.symm))
        have x84 : w4.cell? ⟨bb, off + 9 * k + 8, none⟩ = some (.int .u8 y8.toNat) := (World.cell?_of_block (a := ⟨bb, off + 9 * k + 8, none⟩) (hg4.block bb (World.block_lt_of_cell? _ _ hS2.out.2) (fun e => HBt.out.2 e.symm))).trans hS2.out.2
        have HB4 := Lib.hid (HB3.out.grown hg4 HB3.out.size (fun b e => O3.out.own_ge e))
        have O4 := Lib.hid (And.intro ho4 (ho4.ne_ Q4 (by decide)))
        have HQ4 := Lib.hid Q4
        have hq40 := Q4.cell 0
        obtain ⟨q1, q2, q3⟩ := Q4.all
        refine hK _ _ ⟨fun _ _ => ⟨hq40, x84⟩, ?_⟩; clear hK K
        clear iA iQ iE iG iR iB Q3 Q4 G3 R3 ho4 hg4 hat4 hq40
        apply rp_pure 14 rfl (by kernel_rfl) (fun _ _ _ h => h) rfl
        · (intro W'; go_simp; try rfl)
        · (go_simp; try rfl)
        refine rp_free 15 (by kernel_rfl) (by kernel_rfl) rfl (fun K hK => ?_)
        go_simp
        clear q1 q2 q3
        have x85 : (w4.setCell ⟨w.heap.size + 1 + 1, 0, none⟩ (.slice A4 L4.length C4)).cell? ⟨bb, off + 9 * k + 8, none⟩ = some (.int .u8 y8.toNat) := (World.cell?_setCell_other w4 _ _ _ (fun e => HBt.out.1 (by injection e with e1; exact e1.symm))).trans x84
        have hq5 := (HQ4.out.set_ 0 (.slice A4 L4.length C4)).cell 0
        refine hK _ _ ?_; clear hK K x85 hq5 x84
        refine rp_done (by kernel_rfl) ?_
        go_wp2
        go_roundg (n + 1 - (k + 1))
        case measure => omega
        case rel =>
          obtain ⟨iA, iQ, iE, iG, iR, iB⟩ := HI.out
          refine ⟨k + 1, by go_num, by omega, by omega, Lib.hid ⟨fun i hi => ?_, ⟨_, HQ4.out.set_ 0 _, ?_⟩, G4.out.far (by simp; omega) _, R4.out.far (by simp) _, HB4.out.setCell (by simp; omega) _⟩⟩
          · by_cases e : i = k
            · subst e; rw [← HS.out.2.1, HS.out.2.2.2]; omega
            · exact iA i (by omega)
          · rw [entsOf_step, ← HS.out.2.1, HEn.out, ← HL4.out]
            exact O4.out.1.setP plE (p := ⟨w.heap.size + 1 + 1, 0, none⟩) O4.out.2 _
    · obtain rfl : k = n + 1 := by omega
      have hRT := readT_ref (g := ⟨z, n, sp, sl, an⟩) (b := b) (by simp only [HTN.out]; exact HLn.out) (by simp only [HTN.out]; exact hA)
      simp only [HTN.out] at hRT
      have hlen := entsOf_len (n + 1) b
      obtain ⟨L, hL⟩ : ∃ L, L = entsOf (n + 1) b := ⟨_, rfl⟩
      rw [← hL] at hRT hoE hlen
      have htb := Lib.hid (rtab_any ⟨z, n, sp, sl, an⟩ vE L w0 noM (hoE.sl (fun _ _ h => h)) (by omega) HGK.out)
      unfold gv at htb
      simp only at htb
      obtain ⟨q1, q2, q3⟩ := hQ.all
      have HI := Lib.hid (And.intro hQ (And.intro hoE (And.intro hR hB)))
      have HRT := Lib.hid hRT
      have hnle : ¬ (((n + 1 : Nat) : Int) ≤ (n : Int)) := by omega
      clear hI hL hlen hA hQ hoE hG hR hB hRT
      go_wp2_with fail
      clear g1 g2 g3 q1 q2 q3 hnle
      ((with_reducible refine htb.out.mono ?_); rintro e w2 ⟨rfl, hB2⟩)
      obtain ⟨iQ, iE, iR, iB⟩ := HI.out
      have Q2 := iQ.below hB2
      have R2 := iR.below hB2
      have E2 := iE.below hB2
      have B2 := Lib.hid (iB.trans (hB2.mono iB.size))
      obtain ⟨r1, r2, r3⟩ := R2.all
      obtain ⟨p1, p2, p3⟩ := Q2.all
      obtain ⟨aE, cE, rfl⟩ := E2.form
      cases hok : okT ⟨z, n, sp, sl, an⟩ L with
      | false =>
        have hF := Lib.hid (show readT ⟨z, n, sp, sl, an⟩ b = none by rw [HRT.out, hok]; rfl)
        have hx := (R2.set_ 0 (.slice none 0 0)).cell 0
        clear iQ iE iR iB Q2 E2 hB2 hok R2
        go_wp2
        refine bodyPost_ret (v := .tuple #[.agg #[.slice none 0 0], .bool false]) (by simp [results, Tryz.results108, go_sem, hx]) rfl ?_
        exact ⟨.inl ⟨hF.out, rfl⟩, B2.out.setCell (p := ⟨w.heap.size + 1, 0, none⟩) (Nat.le_succ _) _⟩
      | true =>
        have hF := Lib.hid (show readT ⟨z, n, sp, sl, an⟩ b = some L by rw [HRT.out, hok]; rfl)
        have hne := Lib.hid (E2.ne_ R2 (by decide))
        have HE2 := Lib.hid E2
        have hx := (R2.set_ 0 (.slice aE L.length cE)).cell 0
        clear iQ iE iR iB Q2 E2 hB2 hok R2
        go_wp2
        refine bodyPost_ret (v := .tuple #[.agg #[.slice aE L.length cE], .bool true]) (by simp [results, Tryz.results108, go_sem, hx]) rfl ?_
        exact ⟨.inr ⟨_, L, hF.out, rfl, HE2.out.setP plE (p := ⟨w.heap.size + 1, 0, none⟩) hne.out _⟩, B2.out.setCell (p := ⟨w.heap.size + 1, 0, none⟩) (Nat.le_succ _) _⟩
end Go.Proofs.YteecmgonbdbhdaaGreatDoor
end

/-
The reference: whether an image is right.
-/
section
namespace Go.Proofs.YteecmgonbdbhdaaGreatDoor
open Go.RowKit
attribute [local go_sem ↓] Go.wp_at_zero Go.wp_at_succ

theorem rwhat_any (g : Geo) (n : Int) (w : World) (hg : okG g = true) : Calls Tryz.prog 109 #[gv g, .int .i64 n] w fun e w' => e = .returned (.bool (inB n (-1) (g.d - 1))) ∧ Below w.heap.size w w' := by
  obtain ⟨z, d, sp, sl, an⟩ := g
  have HB := Lib.hid ((Below.refl w.heap.size w).alloc (Nat.le_refl _) (.cells #[.int .i64 z, .int .i64 d, .int .i64 sp, .int .i64 sl, .int .i64 an] 23))
  obtain ⟨-, hd, -⟩ := okG_iff.1 hg
  have hd1 : (1 : Int) ≤ d := hd.1
  have hd2 : d ≤ 4 := hd.2
  have hw : IntKind.i64.wrap (d - 1) = d - 1 := by rw [IntKind.wrap_i64]; omega
  have hin := fun w => rf8in_any n (-1) (d - 1) w
  unfold gv
  simp only
  obtain ⟨bb, hbb⟩ : ∃ bb, bb = inB n (-1) (d - 1) := ⟨_, rfl⟩
  rw [← hbb] at hin ⊢
  clear hd hg hbb
  go_enter Tryz.func109, Tryz.ntmps109
  go_wp2_with (go_at_call 25; go_must (with_reducible refine (hin _).mono ?_); rintro e w1 ⟨rfl, rfl⟩)
  go_ret
  exact ⟨rfl, HB.out⟩

set_option maxHeartbeats 4000000 in
theorem rimage_any (g : Geo) (x : Img) (v : Value) (w : World) (Mi : Ms) (h : SlR w Mi v x.bytes) (hg : okG g = true) :
    Calls Tryz.prog 94 #[gv g, .agg #[.int .i64 x.zone, .int .i64 x.what, v]] w fun e w' => e = .returned (.bool (imgOk g x)) ∧ Below w.heap.size w w' := by
  obtain ⟨zone, what, bytes⟩ := x
  obtain ⟨z, d, sp, sl, an⟩ := g
  simp only at h ⊢
  obtain ⟨a, c, rfl⟩ := h.form
  have hb1 := (Below.refl w.heap.size w).alloc (Nat.le_refl _) (.cells #[.int .i64 z, .int .i64 d, .int .i64 sp, .int .i64 sl, .int .i64 an] 23)
  have hb2 := hb1.alloc (by simp) (.cells #[.int .i64 zone, .int .i64 what, .slice a bytes.length c] 74)
  have hT := Blk.new (w.alloc (.cells #[.int .i64 z, .int .i64 d, .int .i64 sp, .int .i64 sl, .int .i64 an] 23)) 74 #[.int .i64 zone, .int .i64 what, .slice a bytes.length c]
  simp only [World.size_alloc] at hT
  have HB := Lib.hid hb2
  have HT := Lib.hid hT
  have H := Lib.hid (h.bare.mono (Keep.below hb2))
  have HOK := Lib.hid hg
  have hE0 : imgOk ⟨z, d, sp, sl, an⟩ ⟨zone, what, bytes⟩ = (inB zone 0 (z - 1) && (if what = 255 then (readT ⟨z, d, sp, sl, an⟩ bytes).isSome else inB what (-1) (d - 1) && decide (bytes.length = 8))) := by simp [imgOk, hg]
  have hE := Lib.hid hE0
  obtain ⟨hz, -, -⟩ := okG_iff.1 hg
  have hz1 : (1 : Int) ≤ z := hz.1
  have hz2 : z ≤ 4 := hz.2
  have hwz : IntKind.i64.wrap (z - 1) = z - 1 := by rw [IntKind.wrap_i64]; omega
  have hin := fun w => rf15in_any zone 0 (z - 1) w
  unfold gv
  simp only
  clear hb1 hb2 hT h hg hE0 hz
  cases hzo : inB zone 0 (z - 1) with
  | false =>
    rw [hzo] at hE hin
    clear hzo
    go_enter Tryz.func94, Tryz.ntmps94
    go_wp2_with (go_at_call 56; go_must (with_reducible refine (hin _).mono ?_); rintro e w1 ⟨rfl, rfl⟩)
    go_ret
    rw [hE.out]
    exact ⟨rfl, HB.out⟩
  | true =>
    rw [hzo] at hE hin
    clear hzo
    by_cases hw : what = 255
    · subst hw
      rw [if_pos rfl] at hE
      have htr := Lib.hid (rreadT_any ⟨z, d, sp, sl, an⟩ (.slice a bytes.length c) bytes _ noM H.out HOK.out)
      unfold gv at htr
      simp only at htr
      go_enter Tryz.func94, Tryz.ntmps94
      go_wp2_with fail
      ((with_reducible refine (hin _).mono ?_); rintro e w1 ⟨rfl, rfl⟩)
      go_wp2_with fail
      ((with_reducible refine htr.out.mono ?_); rintro e w2 ⟨hU, hB2⟩)
      have HB2 := Lib.hid (HB.out.trans (hB2.mono HB.out.size))
      clear hB2
      rcases hU with ⟨hno, rfl⟩ | ⟨vt, lt, hyes, rfl, ho⟩
      · have hF := Lib.hid hno
        clear hno
        go_wp2
        go_ret
        rw [hE.out, hF.out]
        exact ⟨rfl, HB2.out.trans (((Below.refl w2.heap.size w2).alloc (Nat.le_refl _) _).mono HB2.out.size)⟩
      · have hF := Lib.hid hyes
        obtain ⟨at_, ct, rfl⟩ := ho.form
        clear hyes ho
        go_wp2
        go_ret
        rw [hE.out, hF.out]
        exact ⟨rfl, HB2.out.trans (((Below.refl w2.heap.size w2).alloc (Nat.le_refl _) _).mono HB2.out.size)⟩
    · rw [if_neg hw] at hE
      have hw' : (what == 255) = false := by simpa using hw
      have hwh := Lib.hid (fun w' => rwhat_any ⟨z, d, sp, sl, an⟩ what w' HOK.out)
      unfold gv at hwh
      simp only at hwh
      clear hw
      cases hwo : inB what (-1) (d - 1) with
      | false =>
        rw [hwo] at hE hwh
        clear hwo
        go_enter Tryz.func94, Tryz.ntmps94
        go_wp2_with fail
        ((with_reducible refine (hin _).mono ?_); rintro e w1 ⟨rfl, rfl⟩)
        go_wp2_with fail
        ((with_reducible refine (hwh.out _).mono ?_); rintro e w2 ⟨rfl, hB2⟩)
        have HB2 := Lib.hid (HB.out.trans (hB2.mono HB.out.size))
        clear hB2
        go_wp2
        go_ret
        rw [hE.out]
        exact ⟨rfl, HB2.out⟩
      | true =>
        rw [hwo] at hE hwh
        clear hwo
        go_enter Tryz.func94, Tryz.ntmps94
        go_wp2_with fail
        ((with_reducible refine (hin _).mono ?_); rintro e w1 ⟨rfl, rfl⟩)
        go_wp2_with fail
        ((with_reducible refine (hwh.out _).mono ?_); rintro e w2 ⟨rfl, hB2⟩)
        have HB2 := Lib.hid (HB.out.trans (hB2.mono HB.out.size))
        obtain ⟨t1, t2, t3⟩ := (HT.out.below hB2).all
        clear hB2
        by_cases h8 : bytes.length = 8
        · have h8' : ((bytes.length : Int) == 8) = true := by simp; omega
          have hF := Lib.hid (show decide (bytes.length = 8) = true by simpa using h8)
          clear h8
          go_wp2
          go_ret
          rw [hE.out, hF.out]
          exact ⟨rfl, HB2.out⟩
        · have h8' : ((bytes.length : Int) == 8) = false := by simp; omega
          have hF := Lib.hid (show decide (bytes.length = 8) = false by simpa using h8)
          clear h8
          go_wp2
          go_ret
          rw [hE.out, hF.out]
          exact ⟨rfl, HB2.out⟩
end Go.Proofs.YteecmgonbdbhdaaGreatDoor
end

/-
The reference: whether a record is right (of a right geometry).
-/
section
namespace Go.Proofs.YteecmgonbdbhdaaGreatDoor
open Go.RowKit
attribute [local go_sem ↓] Go.wp_at_zero Go.wp_at_succ

theorem noneB_eq (x : Img) : decide (x = ⟨0, 0, []⟩) = noneB x := by
  obtain ⟨zone, what, bytes⟩ := x
  rw [Bool.eq_iff_iff]
  simp only [decide_eq_true_eq, noneB, Img.mk.injEq, Bool.and_eq_true, beq_iff_eq]
  refine ⟨fun ⟨h1, h2, h3⟩ => ⟨h1, h2, by rw [h3]; rfl⟩, fun ⟨h1, h2, h3⟩ => ⟨h1, h2, ?_⟩⟩
  exact List.length_eq_zero_iff.1 (by omega)

set_option maxRecDepth 100000 in
set_option maxHeartbeats 8000000 in
theorem rrec_any (g : Geo) (r : Rc) (v : Value) (w : World) (Mi : Ms) (h : SlR w Mi v r.img.bytes) (hl : r.img.bytes.length ≤ 100000) (hg : okG g = true) :
    Calls Tryz.prog 83 #[gv g, rv r v] w fun e w' => e = .returned (.bool (okR g r)) ∧ Below w.heap.size w w' := by
  obtain ⟨kind, seq, epoch, at_, of_, ⟨zone, what, bytes⟩⟩ := r
  obtain ⟨z, d, sp, sl, an⟩ := g
  simp only at h hl
  obtain ⟨a, c, rfl⟩ := h.form
  have hb1 := (Below.refl w.heap.size w).alloc (Nat.le_refl _) (.cells #[.int .i64 z, .int .i64 d, .int .i64 sp, .int .i64 sl, .int .i64 an] 23)
  have hb2 := hb1.alloc (by simp) (.cells #[.int .i64 kind, .int .i64 seq, .int .i64 epoch, .int .i64 at_, .int .i64 of_, .int .i64 zone, .int .i64 what, .slice a bytes.length c] 76)
  have hT := Blk.new (w.alloc (.cells #[.int .i64 z, .int .i64 d, .int .i64 sp, .int .i64 sl, .int .i64 an] 23)) 76 #[.int .i64 kind, .int .i64 seq, .int .i64 epoch, .int .i64 at_, .int .i64 of_, .int .i64 zone, .int .i64 what, .slice a bytes.length c]
  simp only [World.size_alloc] at hT
  have HG := Lib.hid ((Blk.new w 23 #[.int .i64 z, .int .i64 d, .int .i64 sp, .int .i64 sl, .int .i64 an]).alloc (.cells #[.int .i64 kind, .int .i64 seq, .int .i64 epoch, .int .i64 at_, .int .i64 of_, .int .i64 zone, .int .i64 what, .slice a bytes.length c] 76))
  have HB := Lib.hid hb2
  have HT := Lib.hid hT
  have H := Lib.hid h.bare
  have HOK := Lib.hid hg
  have hE0 : okR ⟨z, d, sp, sl, an⟩ ⟨kind, seq, epoch, at_, of_, ⟨zone, what, bytes⟩⟩ = behOk ⟨z, d, sp, sl, an⟩ ⟨kind, seq, epoch, at_, of_, ⟨zone, what, bytes⟩⟩ := by simp [okR, hg]
  have hE := Lib.hid hE0
  have HL := Lib.hid hl
  have hki := Lib.hid (kimage_any ⟨zone, what, bytes⟩ ⟨0, 0, []⟩ (.slice a bytes.length c) (.slice none 0 0) _ noM noM (H.out.mono (Keep.below HB.out)) (sl_nil _ _ _ (by simp [maxLen])) (by simp only; omega))
  rw [noneB_eq] at hki
  obtain ⟨nb, hnb⟩ : ∃ nb, nb = noneB ⟨zone, what, bytes⟩ := ⟨_, rfl⟩
  rw [← hnb] at hki
  have HNB := Lib.hid hnb
  simp only at hki
  unfold gv rv
  simp only
  clear hb1 hb2 hT h hg hE0 hl hnb
  go_enter Tryz.func83, Tryz.ntmps83
  go_wp2_with fail
  ((with_reducible refine hki.out.mono ?_); rintro e w1 ⟨rfl, hB1⟩)
  have HB1 := Lib.hid (HB.out.trans (hB1.mono HB.out.size))
  have HG1 := Lib.hid (HG.out.below hB1)
  have HT1 := Lib.hid (HT.out.below hB1)
  clear hB1 hki HB HG HT
  by_cases hk0 : kind = 0
  · subst hk0
    have hE1 : okR ⟨z, d, sp, sl, an⟩ ⟨0, seq, epoch, at_, of_, ⟨zone, what, bytes⟩⟩ = (seq == 0 && (epoch == 0 && (at_ == 0 && (of_ == 0 && nb)))) := by rw [hE.out, HNB.out]; rfl
    have hF := Lib.hid hE1
    clear hE hE1 HNB
    obtain ⟨t1, t2, t3⟩ := HT1.out.all
    cases hseq : (seq == 0) with
    | false =>
      rw [hseq] at hF
      go_wp2
      go_ret
      rw [hF.out]
      exact ⟨rfl, HB1.out⟩
    | true =>
      rw [hseq] at hF
      cases hepoch : (epoch == 0) with
      | false =>
        rw [hepoch] at hF
        go_wp2
        go_ret
        rw [hF.out]
        exact ⟨rfl, HB1.out⟩
      | true =>
        rw [hepoch] at hF
        cases hat_ : (at_ == 0) with
        | false =>
          rw [hat_] at hF
          go_wp2
          go_ret
          rw [hF.out]
          exact ⟨rfl, HB1.out⟩
        | true =>
          rw [hat_] at hF
          cases hof_ : (of_ == 0) with
          | false =>
            rw [hof_] at hF
            go_wp2
            go_ret
            rw [hF.out]
            exact ⟨rfl, HB1.out⟩
          | true =>
            rw [hof_] at hF
            cases nb with
            | false =>
              go_wp2
              go_ret
              rw [hF.out]
              exact ⟨rfl, HB1.out⟩
            | true =>
              go_wp2
              go_ret
              rw [hF.out]
              exact ⟨rfl, HB1.out⟩
  have hk0' : (kind == 0) = false := beq_eq_false_iff_ne.2 hk0
  have hns := fun w => rf15in_any seq 0 4294967295 w
  have hne := fun w => rf15in_any epoch 0 4294967295 w
  have hno := fun w => rf15in_any of_ 2 30 w
  have hF0 : okR ⟨z, d, sp, sl, an⟩ ⟨kind, seq, epoch, at_, of_, ⟨zone, what, bytes⟩⟩ = (if kind = 1 then (inB seq 0 4294967295 && (inB epoch 0 4294967295 && inB of_ 2 30)) && (inB at_ 0 (of_ - 2) && imgOk ⟨z, d, sp, sl, an⟩ ⟨zone, what, bytes⟩) else if kind = 2 then (inB seq 0 4294967295 && (inB epoch 0 4294967295 && inB of_ 2 30)) && (at_ == of_ - 1 && nb) else false) := by rw [hE.out, HNB.out, behOk, if_neg hk0]; rfl
  have hF := Lib.hid hF0
  clear hF0 hE HNB hk0
  obtain ⟨t1, t2, t3⟩ := HT1.out.all
  cases hs : inB seq 0 4294967295 with
  | false =>
    rw [hs] at hF hns
    clear hs
    go_wp2_with fail
    ((with_reducible refine (hns _).mono ?_); rintro e w2 ⟨rfl, rfl⟩)
    go_wp2
    go_ret
    refine ⟨?_, HB1.out⟩
    rw [hF.out]
    simp
  | true =>
  rw [hs] at hF hns
  clear hs
  cases hs : inB epoch 0 4294967295 with
  | false =>
    rw [hs] at hF hne
    clear hs
    go_wp2_with fail
    ((with_reducible refine (hns _).mono ?_); rintro e w2 ⟨rfl, rfl⟩)
    go_wp2_with fail
    ((with_reducible refine (hne _).mono ?_); rintro e w2 ⟨rfl, rfl⟩)
    go_wp2
    go_ret
    refine ⟨?_, HB1.out⟩
    rw [hF.out]
    simp
  | true =>
  rw [hs] at hF hne
  clear hs
  cases hs : inB of_ 2 30 with
  | false =>
    rw [hs] at hF hno
    clear hs
    go_wp2_with fail
    ((with_reducible refine (hns _).mono ?_); rintro e w2 ⟨rfl, rfl⟩)
    go_wp2_with fail
    ((with_reducible refine (hne _).mono ?_); rintro e w2 ⟨rfl, rfl⟩)
    go_wp2_with fail
    ((with_reducible refine (hno _).mono ?_); rintro e w2 ⟨rfl, rfl⟩)
    go_wp2
    go_ret
    refine ⟨?_, HB1.out⟩
    rw [hF.out]
    simp
  | true =>
  rw [hs] at hF hno
  have hob := inB_iff.1 hs
  clear hs
  simp only [Bool.and_self, Bool.true_and] at hF
  go_wp2_with fail
  ((with_reducible refine (hns _).mono ?_); rintro e w2 ⟨rfl, rfl⟩)
  go_wp2_with fail
  ((with_reducible refine (hne _).mono ?_); rintro e w2 ⟨rfl, rfl⟩)
  go_wp2_with fail
  ((with_reducible refine (hno _).mono ?_); rintro e w2 ⟨rfl, rfl⟩)
  clear hns hne hno
  obtain ⟨ob1, ob2⟩ := hob
  by_cases hk2 : kind = 2
  · subst hk2
    have hwo : IntKind.i64.wrap (of_ - 1) = of_ - 1 := by rw [IntKind.wrap_i64]; omega
    rw [if_neg (by decide), if_pos rfl] at hF
    cases ha : (at_ == of_ - 1) with
    | false =>
      rw [ha] at hF
      go_wp2
      go_ret
      rw [hF.out]
      exact ⟨rfl, HB1.out⟩
    | true =>
      rw [ha] at hF
      cases nb with
      | false =>
        go_wp2
        go_ret
        rw [hF.out]
        exact ⟨rfl, HB1.out⟩
      | true =>
        go_wp2
        go_ret
        rw [hF.out]
        exact ⟨rfl, HB1.out⟩
  have hk2' : (kind == 2) = false := beq_eq_false_iff_ne.2 hk2
  by_cases hk1 : kind = 1
  · subst hk1
    rw [if_pos rfl] at hF
    clear hk2 hk2'
    have hwo : IntKind.i64.wrap (of_ - 2) = of_ - 2 := by rw [IntKind.wrap_i64]; omega
    have hna := fun w => rf15in_any at_ 0 (of_ - 2) w
    cases hs : inB at_ 0 (of_ - 2) with
    | false =>
      rw [hs] at hF hna
      clear hs
      go_wp2_with fail
      ((with_reducible refine (hna _).mono ?_); rintro e w2 ⟨rfl, rfl⟩)
      go_wp2
      go_ret
      rw [hF.out]
      exact ⟨rfl, HB1.out⟩
    | true =>
      rw [hs] at hF hna
      clear hs
      have him := Lib.hid (fun w' (hb : Below w.heap.size w w') => rimage_any ⟨z, d, sp, sl, an⟩ ⟨zone, what, bytes⟩ (.slice a bytes.length c) w' noM (H.out.mono (Keep.below hb)) HOK.out)
      unfold gv at him
      simp only at him
      obtain ⟨bb, hbb⟩ : ∃ bb, bb = imgOk ⟨z, d, sp, sl, an⟩ ⟨zone, what, bytes⟩ := ⟨_, rfl⟩
      rw [← hbb] at him hF
      clear hbb
      obtain ⟨g1, g2, g3⟩ := HG1.out.all
      go_wp2_with fail
      ((with_reducible refine (hna _).mono ?_); rintro e w2 ⟨rfl, rfl⟩)
      go_wp2_with fail
      clear g1 g2 g3 t1 t2 t3
      ((with_reducible refine (him.out _ HB1.out).mono ?_); rintro e w3 ⟨rfl, hB3⟩)
      have HB3 := Lib.hid (HB1.out.trans (hB3.mono HB1.out.size))
      clear hB3 him
      go_wp2
      go_ret
      rw [hF.out]
      exact ⟨by simp, HB3.out⟩
  have hk1' : (kind == 1) = false := beq_eq_false_iff_ne.2 hk1
  rw [if_neg hk1, if_neg hk2] at hF
  go_wp2
  go_ret
  rw [hF.out]
  exact ⟨rfl, HB1.out⟩
end Go.Proofs.YteecmgonbdbhdaaGreatDoor
end

/-
Comparison of records, what is too heavy, a transaction's records.
-/
section
namespace Go.Proofs.YteecmgonbdbhdaaGreatDoor.A
open Go.RowKit

def heavyL (l : List Img) : Bool := decide (40 < l.length) || l.any fun x => decide (200 < x.bytes.length)
theorem gcheck_fn (z d sp sl an : Int) : Fn Tryz.prog 39 [.ag (geoC ⟨z, d, sp, sl, an⟩)] fun r => r = .v (errV (okG ⟨z, d, sp, sl, an⟩)) := by
  have hin : ∀ n lo hi, Fn Tryz.prog 57 [.v (.int .i64 n), .v (.int .i64 lo), .v (.int .i64 hi)] fun r => r = .v (.bool (inB n lo hi)) := by
    intro n lo hi
    refine Fn.of tys_ok Tryz.func57 rfl rfl (Nat.le_of_ble_eq_true rfl) ?_
    conv => whnf
    repeat' (first | (refine boolK_intro (fun h => ?_) (fun h => ?_) <;> (try simp at h) <;> conv => whnf) | (refine aDraw.seq tys_ok mixed (by kernel_rfl) ?_; conv => whnf) | (refine aSeq.go ?_; conv => whnf) | (refine And.intro (by omega) ?_; conv => whnf))
    all_goals exact ⟨_, fun _ _ h => h, by simp [inB, *] <;> omega⟩
  refine Fn.of tys_ok Tryz.func39 rfl rfl (Nat.le_of_ble_eq_true rfl) ?_
  conv => whnf
  repeat' (first | (refine boolK_intro (fun h => ?_) (fun h => ?_) <;> (try simp at h) <;> conv => whnf) | (refine aDraw.seq tys_ok mixed (by kernel_rfl) ?_; conv => whnf) | (refine aSeq.go ?_; conv => whnf) | (refine Fn.closed (hin _ _ _) rfl ?_; rintro _ rfl; conv => whnf) | (refine And.intro (by omega) ?_; conv => whnf))
  all_goals exact ⟨_, fun _ _ h => h, by simp [okG, errV, *]⟩
theorem rin_fn (n lo hi : Int) : Fn Tryz.prog 102 [.v (.int .i64 n), .v (.int .i64 lo), .v (.int .i64 hi)] fun r => r = .v (.bool (inB n lo hi)) := by
  refine Fn.of tys_ok Tryz.func102 rfl rfl (Nat.le_of_ble_eq_true rfl) ?_
  conv => whnf
  repeat' (first | (refine boolK_intro (fun h => ?_) (fun h => ?_) <;> (try simp at h) <;> conv => whnf) | (refine aDraw.seq tys_ok mixed (by kernel_rfl) ?_; conv => whnf) | (refine aSeq.go ?_; conv => whnf) | (refine And.intro (by omega) ?_; conv => whnf))
  all_goals exact ⟨_, fun _ _ h => h, by simp [inB, *] <;> omega⟩
end Go.Proofs.YteecmgonbdbhdaaGreatDoor.A
end

/-
What reads in one way reads in another.
-/
section
namespace Go.Proofs.YteecmgonbdbhdaaGreatDoor.A
open Go.RowKit

theorem map_getD {α β : Type} {d : α} {e : β} {f : α → β} {l : List α} {i : Nat} (h : i < l.length) : (l.map f).getD i e = f (l.getD i d) := by
  rw [List.getD_eq_getElem?_getD, List.getD_eq_getElem?_getD, List.getElem?_map, List.getElem?_eq_getElem h]; rfl
theorem rowEq {t sz : Nat} {a b c : List (List AV)} (h : a = b ++ c) : AB.row t sz a = .row t sz (b ++ c) := by rw [h]
theorem getD_app {α : Type} {d : α} {a b : List α} {i : Nat} (h : i < a.length) : (a ++ b).getD i d = a.getD i d := by
  rw [List.getD_eq_getElem?_getD, List.getD_eq_getElem?_getD, List.getElem?_append_left h]
theorem getD_appR {α : Type} {d : α} {a b : List α} {i : Nat} (h : a.length ≤ i) : (a ++ b).getD i d = b.getD (i - a.length) d := by
  rw [List.getD_eq_getElem?_getD, List.getD_eq_getElem?_getD, List.getElem?_append_right h]
/-- Cell by cell. -/
def SubL : List AV → List AV → Prop
  | [], [] => True
  | x :: l, y :: m => (∀ c u, Rd x c u → Rd y c u) ∧ SubL l m
  | _, _ => False
theorem SubL.refl : ∀ l, SubL l l
  | [] => trivial
  | _ :: l => ⟨fun _ _ h => h, SubL.refl l⟩
theorem SubL.len : ∀ {l m}, SubL l m → l.length = m.length
  | [], [], _ => rfl
  | _ :: _, _ :: _, h => by simp [SubL.len h.2]
  | [], _ :: _, h => h.elim
  | _ :: _, [], h => h.elim
theorem SubL.rd : ∀ {l m} {c : Ctx} {b off : Nat}, SubL l m → RdAt l c b off → RdAt m c b off
  | [], [], _, _, _, _, _ => by simp [RdAt]
  | x :: l, y :: m, c, b, off, h, hr => by
    simp only [RdAt] at hr ⊢
    obtain ⟨⟨u, h1, h2, h3⟩, h4⟩ := hr
    exact ⟨⟨u, h1, h2, h.1 _ _ h3⟩, SubL.rd h.2 h4⟩
  | [], _ :: _, _, _, _, h, _ => h.elim
  | _ :: _, [], _, _, _, h, _ => h.elim
theorem Rd.sub {c : Ctx} {sz n n' : Nat} {get get' : Nat → List AV} {u : Value} (hn : n = n') (hg : ∀ i, i < n → SubL (get i) (get' i)) (h : Rd (.sl sz n get) c u) : Rd (.sl sz n' get') c u := by
  subst hn
  simp only [Rd] at h ⊢
  obtain ⟨a, k, rfl, h1, h2, h3⟩ := h
  refine ⟨a, k, rfl, h1, h2, h3.imp id ?_⟩
  rintro ⟨b, off, rfl, q1, q2, q3⟩
  exact ⟨b, off, rfl, q1, q2, fun i hi => ⟨by rw [← (hg i hi).len]; exact (q3 i hi).1, (hg i hi).rd (q3 i hi).2⟩⟩
theorem nil_sl (sz : Nat) (get : Nat → List AV) (c : Ctx) (u : Value) (h : Rd (.v (.slice none 0 0)) c u) : Rd (.sl sz 0 get) c u := by
  simp only [Rd] at h ⊢
  exact ⟨none, 0, h, by omega, by simp [maxLen], .inl trivial⟩
theorem SubL.rdl : ∀ {l m} {c : Ctx} {xs : List Value}, SubL l m → RdL l c xs → RdL m c xs
  | [], [], _, _, _, h => h
  | x :: l, y :: m, c, xs, h, hr => by
    simp only [RdL] at hr ⊢
    obtain ⟨u, us, rfl, h1, h2⟩ := hr
    exact ⟨u, us, rfl, h.1 _ _ h1, SubL.rdl h.2 h2⟩
  | [], _ :: _, _, _, h, _ => h.elim
  | _ :: _, [], _, _, h, _ => h.elim
theorem ag_sub {l m : List AV} (h : SubL l m) (c : Ctx) (u : Value) (hr : Rd (.ag l) c u) : Rd (.ag m) c u := by
  simp only [Rd] at hr ⊢
  obtain ⟨xs, rfl, h1⟩ := hr
  exact ⟨xs, rfl, h.rdl h1⟩
theorem ACalls.sub {P : Program} {q : Bool} {f : FuncId} {args : List AV} {H : List AB} {k : AV → List AB → Prop} (args' : List AV) (hs : SubL args args') (h : ACalls P q f args' H k) : ACalls P q f args H k :=
  ⟨h.go, fun w0 M0 c us h1 h2 => h.calls w0 M0 c us h1 (hs.rdl h2)⟩
/-- A row of numbers that was written out. -/
theorem lit_ints {es : List (List AV)} {l : List Int} (h : es = l.map fun x => [.v (.int .i64 x)]) : SubL [.sl 1 l.length fun i => es.getD i []] [iA l] :=
  ⟨fun _ _ hr => Rd.congr rfl (fun i hi => by rw [h, map_getD (d := 0) hi]) hr, trivial⟩
end Go.Proofs.YteecmgonbdbhdaaGreatDoor.A
end

/-
Package anchor: whether an anchor is right.
-/
section
namespace Go.Proofs.YteecmgonbdbhdaaGreatDoor.A
open Go.RowKit

theorem ain_fn (n lo hi : Int) : Fn Tryz.prog 41 [.v (.int .i64 n), .v (.int .i64 lo), .v (.int .i64 hi)] fun r => r = .v (.bool (inB n lo hi)) := by
  refine Fn.of tys_ok Tryz.func41 rfl rfl (Nat.le_of_ble_eq_true rfl) ?_
  conv => whnf
  repeat' (first | (refine boolK_intro (fun h => ?_) (fun h => ?_) <;> (try simp at h) <;> conv => whnf) | (refine aDraw.seq tys_ok mixed (by kernel_rfl) ?_; conv => whnf) | (refine aSeq.go ?_; conv => whnf) | (refine And.intro (by omega) ?_; conv => whnf))
  all_goals exact ⟨_, fun _ _ h => h, by simp [inB, *] <;> omega⟩
theorem num1_fn (n : Int) : Fn Tryz.prog 59 [.v (.int .i64 n)] fun r => r = .v (.bool (!inB n 0 4294967295)) := by
  refine Fn.of tys_ok Tryz.func59 rfl rfl (Nat.le_of_ble_eq_true rfl) ?_
  conv => whnf
  refine Fn.closed (ain_fn n 0 4294967295) rfl ?_
  rintro _ rfl
  conv => whnf
  exact ⟨_, fun _ _ h => h, rfl⟩
theorem ixNum_fn (l : List Int) (hl : l.length ≤ 1000000) : Fn Tryz.prog 73 [iA l, .v (.func (.func 59) #[] #[])] fun r => ∃ n : Int, r = .v (.int .i64 n) ∧ decide (0 ≤ n) = l.any (fun x => !inB x 0 4294967295) := by
  refine Fn.of tys_ok Tryz.func73 rfl rfl (Nat.le_of_ble_eq_true rfl) ?_
  conv => whnf
  refine aLoop.rule Nat (fun k => ([(0, iA l), (1, .v (.func (.func 59) #[] #[])), (7, .v (.int .i64 l.length)), (8, .v (.int .i64 k))], [])) (fun k => k ≤ l.length ∧ (l.take k).any (fun x => !inB x 0 4294967295) = false) (fun k => l.length - k) 0 ⟨Nat.zero_le _, by simp⟩ ⟨[], trivial, ⟨rfl, rfl, rfl, rfl, trivial⟩, trivial, rfl, rfl, rfl⟩ ?_
  rintro k ⟨hk, hI⟩
  conv => whnf
  refine boolK_intro (fun h2 => ?_) (fun h2 => ?_) <;> simp at h2 <;> conv => whnf
  · refine ⟨by first | omega | exact ⟨rfl, by omega, by omega⟩ | exact ⟨rfl, by simp only [List.length_map], by omega⟩ | exact ⟨rfl, by simp only [List.length_map]; omega, by omega⟩ | exact ⟨rfl, by simp only [List.length_set]; omega, by omega⟩ | (simp only [List.length_map]; omega), ?_⟩
    conv => whnf
    refine Fn.closed (num1_fn (l.getD k 0)) rfl ?_
    rintro _ rfl
    conv => whnf
    refine boolK_intro (fun h3 => ?_) (fun h3 => ?_) <;> conv => whnf
    · exact ⟨_, fun _ _ h => h, _, rfl, by
        rw [List.any_eq_true.2 ⟨l.getD k 0, getD_mem h2, h3⟩, decide_eq_true]; omega⟩
    · refine ⟨k + 1, ⟨by omega, ?_⟩, by omega, [], trivial, ⟨rfl, rfl, rfl, wsucc (by omega), trivial⟩, trivial, rfl, rfl, rfl⟩
      rw [List.take_succ_eq_append_getElem h2, List.any_append, hI]
      rw [List.getD_eq_getElem?_getD, List.getElem?_eq_getElem h2] at h3
      simpa using h3
  · exact ⟨_, fun _ _ h => h, _, rfl, by rw [List.take_of_length_le h2] at hI; rw [hI]; rfl⟩
theorem num_fn (l : List Int) (hl : l.length ≤ 1000000) : Fn Tryz.prog 40 [iA l] fun r => r = .v (.bool (l.all fun x => inB x 0 4294967295)) := by
  have hc : Fn Tryz.prog 58 [iA l, .v (.func (.func 59) #[] #[])] fun r => r = .v (.bool (l.any fun x => !inB x 0 4294967295)) := by
    refine Fn.of tys_ok Tryz.func58 rfl rfl (Nat.le_of_ble_eq_true rfl) ?_
    conv => whnf
    refine Fn.closed (ixNum_fn l hl) rfl ?_
    rintro _ ⟨n, rfl, hn⟩
    conv => whnf
    exact ⟨_, fun _ _ h => h, by rw [← hn]⟩
  refine Fn.of tys_ok Tryz.func40 rfl rfl (Nat.le_of_ble_eq_true rfl) ?_
  conv => whnf
  refine Fn.closed (hc) rfl ?_
  rintro _ rfl
  conv => whnf
  exact ⟨_, fun _ _ h => h, by rw [List.all_eq_not_any_not]⟩
theorem gslots_fn (g : Geo) (hg : okG g = true) : Fn Tryz.prog 63 [.ag (geoC g)] fun r => r = .v (.int .i64 (g.d + 1 + g.sp)) := by
  obtain ⟨h1, h2, h3, h4, h5⟩ := okG_iff.1 hg
  refine Fn.of tys_ok Tryz.func63 rfl rfl (Nat.le_of_ble_eq_true rfl) ?_
  conv => whnf
  exact ⟨_, fun _ _ h => h, by rw [wi (n := g.d + 1) (by omega), wi (by omega)]⟩
theorem ixInt_fn (l : List Int) (p : Int) (hl : l.length ≤ 1000000) : Fn Tryz.prog 64 [iA l, .v (.int .i64 p)] fun r => r = .v (.bool (l.any fun x => p == x)) := by
  have hx : Fn Tryz.prog 75 [iA l, .v (.int .i64 p)] fun r => ∃ n : Int, r = .v (.int .i64 n) ∧ decide (0 ≤ n) = l.any (fun x => p == x) := by
    refine Fn.of tys_ok Tryz.func75 rfl rfl (Nat.le_of_ble_eq_true rfl) ?_
    conv => whnf
    refine aLoop.rule Nat (fun k => ([(0, iA l), (1, .v (.int .i64 p)), (7, .v (.int .i64 l.length)), (8, .v (.int .i64 k))], [])) (fun k => k ≤ l.length ∧ (l.take k).any (fun x => p == x) = false) (fun k => l.length - k) 0 ⟨Nat.zero_le _, by simp⟩ ⟨[], trivial, ⟨rfl, rfl, rfl, rfl, trivial⟩, trivial, rfl, rfl, rfl⟩ ?_
    rintro k ⟨hk, hI⟩
    conv => whnf
    refine boolK_intro (fun h2 => ?_) (fun h2 => ?_) <;> simp at h2 <;> conv => whnf
    · refine ⟨by first | omega | exact ⟨rfl, by omega, by omega⟩ | exact ⟨rfl, by simp only [List.length_map], by omega⟩ | exact ⟨rfl, by simp only [List.length_map]; omega, by omega⟩ | exact ⟨rfl, by simp only [List.length_set]; omega, by omega⟩ | (simp only [List.length_map]; omega), ?_⟩
      conv => whnf
      refine boolK_intro (fun h3 => ?_) (fun h3 => ?_) <;> conv => whnf
      · exact ⟨_, fun _ _ h => h, _, rfl, by
          rw [List.any_eq_true.2 ⟨l.getD k 0, getD_mem h2, h3⟩, decide_eq_true]; omega⟩
      · refine ⟨k + 1, ⟨by omega, ?_⟩, by omega, [], trivial, ⟨rfl, rfl, rfl, wsucc (by omega), trivial⟩, trivial, rfl, rfl, rfl⟩
        rw [List.take_succ_eq_append_getElem h2, List.any_append, hI]
        have h3 : (p == l.getD k 0) = false := h3
        rw [List.getD_eq_getElem?_getD, List.getElem?_eq_getElem h2] at h3
        simpa using h3
    · exact ⟨_, fun _ _ h => h, _, rfl, by rw [List.take_of_length_le h2] at hI; rw [hI]; rfl⟩
  refine Fn.of tys_ok Tryz.func64 rfl rfl (Nat.le_of_ble_eq_true rfl) ?_
  conv => whnf
  refine Fn.closed hx rfl ?_
  rintro _ ⟨n, rfl, hn⟩
  conv => whnf
  exact ⟨_, fun _ _ h => h, by rw [← hn]⟩
/-- places that are right: below the next one, none twice -/
def plOk (l : List Int) (n : Int) : Bool := (List.range l.length).all fun i => inB (l.getD i 0) 0 (n - 1) && !(l.take i).any fun x => l.getD i 0 == x
def hmOk (g : Geo) (h : Hm) : Bool := decide ((h.places.length : Int) = g.d + 1) && (inB h.next (g.d + 1) (g.d + 1 + g.sp) && (inB h.root 0 4294967295 && plOk h.places h.next))
theorem plOk_no {l : List Int} {n : Int} {k : Nat} (hk : k < l.length) (h : (inB (l.getD k 0) 0 (n - 1) && !(l.take k).any fun x => l.getD k 0 == x) = false) : plOk l n = false := by
  unfold plOk
  rw [List.all_eq_false]
  exact ⟨k, by simpa using hk, by rw [h]; simp⟩
theorem home_fn (g : Geo) (h : Hm) (hg : okG g = true) : Fn Tryz.prog 45 [.ag (geoC g), .ag (hmC h)] fun r => r = .v (.bool (hmOk g h)) := by
  obtain ⟨h1, h2, h3, h4, h5⟩ := okG_iff.1 hg
  refine Fn.of tys_ok Tryz.func45 rfl rfl (Nat.le_of_ble_eq_true rfl) ?_
  conv => whnf
  refine aDraw.of tys_ok mixed [0, 1, 2, 3, 4, 5, 6, 7, 8, 9, 10, 11, 12, 13, 14, 15, 16, 17, 18, 19, 20, 21, 22, 23, 24] (by kernel_rfl) ?_
  conv => whnf
  have w1 : IntKind.i64.wrap (g.d + 1) = g.d + 1 := wi (by omega)
  refine boolK_intro (fun t1 => ?_) (fun t1 => ?_) <;> simp only [w1, bne_iff_ne, ne_eq, bne_eq_false_iff_eq] at t1 <;> conv => whnf
  · exact ⟨_, fun _ _ h => h, by simp [hmOk, t1]⟩
  refine Fn.closed (gslots_fn g hg) rfl ?_
  rintro _ rfl
  conv => whnf
  refine Fn.closed (ain_fn _ _ _) rfl ?_
  rintro _ rfl
  conv => whnf
  refine boolK_intro (fun t2 => ?_) (fun t2 => ?_) <;> simp only [w1, Bool.not_eq_true', Bool.not_eq_false'] at t2 <;> conv => whnf
  · exact ⟨_, fun _ _ h => h, by simp [hmOk, t2]⟩
  refine ACalls.shut (num_fn [h.root] (by simp)).go ?_
  conv => whnf
  refine ⟨rfl, ?_⟩
  conv => whnf
  refine ACalls.sub [iA [h.root]] (lit_ints (l := [h.root]) (es := [[.v (.int .i64 h.root)]]) rfl) ?_
  refine Fn.closed (num_fn [h.root] (by simp)) rfl ?_
  rintro _ rfl
  conv => whnf
  refine boolK_intro (fun t3 => ?_) (fun t3 => ?_) <;> simp only [List.all_cons, List.all_nil, Bool.and_true, Bool.not_eq_true', Bool.not_eq_false'] at t3 <;> conv => whnf
  · exact ⟨_, fun _ _ h => h, by simp [hmOk, t3]⟩
  refine aLoop.rule Nat (fun k => ([(2, .bp 0 0), (3, .bp 1 0), (33, iA h.places), (34, .v (.int .i64 h.places.length)), (35, .v (.int .i64 k))], [.box 23 (geoC g), .box 58 (hmC h)])) (fun k => k ≤ h.places.length ∧ (List.range k).all (fun i => inB (h.places.getD i 0) 0 (h.next - 1) && !(h.places.take i).any fun x => h.places.getD i 0 == x) = true) (fun k => h.places.length - k) 0 ⟨Nat.zero_le _, by simp⟩ ⟨[], trivial, ⟨rfl, rfl, rfl, rfl, rfl, trivial⟩, ⟨rfl, rfl, trivial⟩, rfl, rfl, rfl⟩ ?_
  rintro k ⟨hk, hI⟩
  conv => whnf
  refine boolK_intro (fun h6 => ?_) (fun h6 => ?_) <;> simp at h6 <;> conv => whnf
  · refine ⟨by first | omega | exact ⟨rfl, by omega, by omega⟩ | exact ⟨rfl, by simp only [List.length_map], by omega⟩ | exact ⟨rfl, by simp only [List.length_map]; omega, by omega⟩ | exact ⟨rfl, by simp only [List.length_set]; omega, by omega⟩ | (simp only [List.length_map]; omega), ?_⟩
    conv => whnf
    refine Fn.closed (ain_fn _ _ _) rfl ?_
    rintro _ rfl
    conv => whnf
    have hnx : 0 ≤ h.next ∧ h.next ≤ 100 := by
      have := inB_iff.1 t2
      omega
    have w2 : IntKind.i64.wrap (h.next - 1) = h.next - 1 := wi (by omega)
    refine boolK_intro (fun t4 => ?_) (fun t4 => ?_) <;> simp only [w2, Int.toNat_natCast, Bool.not_eq_true', Bool.not_eq_false'] at t4 <;> conv => whnf
    · exact ⟨_, fun _ _ h => h, by rw [hmOk, plOk_no h6 (by rw [t4]; rfl)]; simp⟩
    refine ⟨⟨by omega, by omega, by omega, by omega⟩, ?_⟩
    conv => whnf
    refine ACalls.sub [iA (h.places.take k), .v (.int .i64 (h.places.getD k 0))] ⟨fun c u hr => Rd.congr (by simp; omega) (fun i hi => by simp at hi; simp [List.getElem?_take_of_lt hi]) hr, fun _ _ hr => hr, trivial⟩ ?_
    refine Fn.closed (ixInt_fn (h.places.take k) (h.places.getD k 0) (by simp; omega)) rfl ?_
    rintro _ rfl
    conv => whnf
    refine boolK_intro (fun t5 => ?_) (fun t5 => ?_) <;> conv => whnf
    · exact ⟨_, fun _ _ h => h, by rw [hmOk, plOk_no h6 (by rw [t5]; simp)]; simp⟩
    · refine ⟨k + 1, ⟨by omega, ?_⟩, by omega, [], trivial, ⟨rfl, rfl, rfl, rfl, wsucc (by omega), trivial⟩, ⟨rfl, rfl, trivial⟩, rfl, rfl, rfl⟩
      rw [List.range_succ, List.all_append, hI]
      have t5 : ((h.places.take k).any fun x => h.places.getD k 0 == x) = false := t5
      simp only [List.all_cons, List.all_nil, t4, t5]; rfl
  · have e : k = h.places.length := by omega
    rw [e] at hI
    exact ⟨_, fun _ _ h => h, by rw [hmOk, t2, t3, decide_eq_true t1, plOk, hI]; rfl⟩
theorem check1_fn (g : Geo) (h : Hm) (hg : okG g = true) : Fn Tryz.prog 44 [.ag (hmC h), .rp (geoC g)] fun r => r = .v (.bool (!hmOk g h)) := by
  refine Fn.of tys_ok Tryz.func44 rfl rfl (Nat.le_of_ble_eq_true rfl) ?_
  conv => whnf
  refine Fn.closed (home_fn g h hg) rfl ?_
  rintro _ rfl
  conv => whnf
  exact ⟨_, fun _ _ h => h, rfl⟩
theorem cfHome_fn (g : Geo) (l : List Hm) (hg : okG g = true) (hl : l.length ≤ 1000000) : Fn Tryz.prog 43 [hmsA l, .fn 44 [.rp (geoC g)]] fun r => r = .v (.bool (l.any fun h => !hmOk g h)) := by
  have hx : Fn Tryz.prog 62 [hmsA l, .fn 44 [.rp (geoC g)]] fun r => ∃ n : Int, r = .v (.int .i64 n) ∧ decide (0 ≤ n) = l.any (fun h => !hmOk g h) := by
    refine Fn.of tys_ok Tryz.func62 rfl rfl (Nat.le_of_ble_eq_true rfl) ?_
    conv => whnf
    refine aLoop.rule Nat (fun k => ([(0, hmsA l), (1, .fn 44 [.rp (geoC g)]), (7, .v (.int .i64 l.length)), (8, .v (.int .i64 k))], [])) (fun k => k ≤ l.length ∧ (l.take k).any (fun h => !hmOk g h) = false) (fun k => l.length - k) 0 ⟨Nat.zero_le _, by simp⟩ ⟨[], trivial, ⟨rfl, rfl, rfl, rfl, trivial⟩, trivial, rfl, rfl, rfl⟩ ?_
    rintro k ⟨hk, hI⟩
    conv => whnf
    refine boolK_intro (fun h2 => ?_) (fun h2 => ?_) <;> simp at h2 <;> conv => whnf
    · refine ⟨by first | omega | exact ⟨rfl, by omega, by omega⟩ | exact ⟨rfl, by simp only [List.length_map], by omega⟩ | exact ⟨rfl, by simp only [List.length_map]; omega, by omega⟩ | exact ⟨rfl, by simp only [List.length_set]; omega, by omega⟩ | (simp only [List.length_map]; omega), ?_⟩
      conv => whnf
      refine Fn.closed (check1_fn g (l.getD k ⟨[], 0, 0⟩) hg) rfl ?_
      rintro _ rfl
      conv => whnf
      refine boolK_intro (fun h3 => ?_) (fun h3 => ?_) <;> conv => whnf
      · exact ⟨_, fun _ _ h => h, _, rfl, by
          rw [List.any_eq_true.2 ⟨l.getD k ⟨[], 0, 0⟩, getD_mem h2, h3⟩, decide_eq_true]; omega⟩
      · refine ⟨k + 1, ⟨by omega, ?_⟩, by omega, [], trivial, ⟨rfl, rfl, rfl, wsucc (by omega), trivial⟩, trivial, rfl, rfl, rfl⟩
        rw [List.take_succ_eq_append_getElem h2, List.any_append, hI]
        rw [List.getD_eq_getElem?_getD, List.getElem?_eq_getElem h2] at h3
        simpa using h3
    · exact ⟨_, fun _ _ h => h, _, rfl, by rw [List.take_of_length_le h2] at hI; rw [hI]; rfl⟩
  refine Fn.of tys_ok Tryz.func43 rfl rfl (Nat.le_of_ble_eq_true rfl) ?_
  conv => whnf
  refine Fn.closed hx rfl ?_
  rintro _ ⟨n, rfl, hn⟩
  conv => whnf
  exact ⟨_, fun _ _ h => h, by rw [← hn]⟩
def anOk (g : Geo) (a : An) : Bool := ([a.gen, a.epoch, a.seq, a.last].all fun x => inB x 0 4294967295) && (decide (1 ≤ a.seq) && (decide (a.seq - 1 ≤ a.last) && (inB a.pos 0 (g.sl - 1) && (decide (labE a.label.data.toList = 0) && (decide ((a.homes.length : Int) = g.z) && a.homes.all (hmOk g))))))
theorem acheck_fn (g : Geo) (a : An) (hl : a.label.size ≤ 1000000) (hh : a.homes.length ≤ 1000000) : Fn Tryz.prog 21 [.ag (geoC g), .ag (anC a)] fun r => r = .v (errV (okG g && anOk g a)) := by
  have s1 : Fn Tryz.prog 39 [.ag (geoC g)] fun r => r = .v (errV (okG g)) := gcheck_fn g.z g.d g.sp g.sl g.an
  cases hg : okG g with
  | false =>
    rw [hg] at s1
    refine Fn.of tys_ok Tryz.func21 rfl rfl (Nat.le_of_ble_eq_true rfl) ?_
    conv => whnf
    refine aSeq.go ?_
    conv => whnf
    refine aSeq.go ?_
    conv => whnf
    refine Fn.closed (s1) rfl ?_
    rintro _ rfl
    conv => whnf
    exact ⟨_, fun _ _ h => h, rfl⟩
  | true =>
    rw [hg] at s1
    obtain ⟨h1, h2, h3, h4, h5⟩ := okG_iff.1 hg
    have w1 : IntKind.i64.wrap (g.sl - 1) = g.sl - 1 := wi (by omega)
    refine Fn.of tys_ok Tryz.func21 rfl rfl (Nat.le_of_ble_eq_true rfl) ?_
    conv => whnf
    refine aSeq.go ?_
    conv => whnf
    refine aSeq.go ?_
    conv => whnf
    refine Fn.closed (s1) rfl ?_
    rintro _ rfl
    conv => whnf
    refine ACalls.shut (num_fn [a.gen, a.epoch, a.seq, a.last] (by simp)).go ?_
    conv => whnf
    refine ⟨rfl, ?_⟩
    conv => whnf
    refine ACalls.sub [iA [a.gen, a.epoch, a.seq, a.last]] (lit_ints (l := [a.gen, a.epoch, a.seq, a.last]) (es := [[.v (.int .i64 a.gen)], [.v (.int .i64 a.epoch)], [.v (.int .i64 a.seq)], [.v (.int .i64 a.last)]]) rfl) ?_
    refine Fn.closed (num_fn [a.gen, a.epoch, a.seq, a.last] (by simp)) rfl ?_
    rintro _ rfl
    conv => whnf
    refine boolK_intro (fun t1 => ?_) (fun t1 => ?_) <;> simp only [Bool.not_eq_true', Bool.not_eq_false'] at t1 <;> conv => whnf
    · exact ⟨_, fun _ _ h => h, by rw [anOk, t1]; rfl⟩
    have hseq : 0 ≤ a.seq ∧ a.seq ≤ 4294967295 := inB_iff.1 (List.all_eq_true.1 t1 a.seq (by simp))
    have w2 : IntKind.i64.wrap (a.seq - 1) = a.seq - 1 := wi (by omega)
    refine boolK_intro (fun t2 => ?_) (fun t2 => ?_) <;> simp only [decide_eq_true_eq, decide_eq_false_iff_not] at t2 <;> conv => whnf
    · exact ⟨_, fun _ _ h => h, by rw [anOk, decide_eq_false (show ¬ 1 ≤ a.seq by omega)]; simp [errV]⟩
    refine boolK_intro (fun t3 => ?_) (fun t3 => ?_) <;> simp only [w2, decide_eq_true_eq, decide_eq_false_iff_not] at t3 <;> conv => whnf
    · exact ⟨_, fun _ _ h => h, by rw [anOk, decide_eq_false (show ¬ a.seq - 1 ≤ a.last by omega)]; simp [errV]⟩
    refine Fn.closed (ain_fn _ _ _) rfl ?_
    rintro _ rfl
    conv => whnf
    refine boolK_intro (fun t4 => ?_) (fun t4 => ?_) <;> simp only [w1, Bool.not_eq_true', Bool.not_eq_false'] at t4 <;> conv => whnf
    · exact ⟨_, fun _ _ h => h, by rw [anOk, t4]; simp [errV]⟩
    refine Fn.closed (lcheckA_fn a.label hl) rfl ?_
    rintro _ rfl
    conv => whnf
    refine boolK_intro (fun t5 => ?_) (fun t5 => ?_) <;> simp only [bne_iff_ne, ne_eq, bne_eq_false_iff_eq] at t5 <;> conv => whnf
    · exact ⟨_, fun _ _ h => h, by rw [anOk, decide_eq_false t5]; simp [errV]⟩
    refine boolK_intro (fun t6 => ?_) (fun t6 => ?_) <;> simp only [bne_iff_ne, ne_eq, bne_eq_false_iff_eq] at t6 <;> conv => whnf
    · exact ⟨_, fun _ _ h => h, by rw [anOk, decide_eq_false t6]; simp [errV]⟩
    refine Fn.closed (cfHome_fn g a.homes hg hh) rfl ?_
    rintro _ rfl
    conv => whnf
    have hA : anOk g a = a.homes.all (hmOk g) := by
      rw [anOk, t1, t4, decide_eq_true (show 1 ≤ a.seq by omega), decide_eq_true (show a.seq - 1 ≤ a.last by omega), decide_eq_true t5, decide_eq_true t6]
      simp
    rw [List.all_eq_not_any_not] at hA
    refine boolK_intro (fun t7 => ?_) (fun t7 => ?_) <;> conv => whnf
    · exact ⟨_, fun _ _ h => h, by rw [hA, t7]; rfl⟩
    · exact ⟨_, fun _ _ h => h, by rw [hA, t7]; rfl⟩
end Go.Proofs.YteecmgonbdbhdaaGreatDoor.A
end
