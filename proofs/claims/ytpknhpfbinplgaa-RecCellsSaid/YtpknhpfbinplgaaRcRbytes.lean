/-
rec.Bytes.
-/
import Derived.Test.YtpknhpfbinplgaaRcRec0
namespace Go.Proofs.Ytpknhpfbinplgaa
open Go.RowKit
attribute [local go_sem ↓] Go.wp_at_zero Go.wp_at_succ

def RbytesP (w' : World) (base : Nat) (g : Geo) (r : Rc) (e : Ending) : Prop :=
  (okR g r = true ∧ ∃ v, e = .returned (.tuple #[v, .int .i64 0]) ∧ OwR w' noM base 5 v (recB r)) ∨ (okR g r = false ∧ e = .returned (.tuple #[.slice none 0 0, .int .i64 1]))
theorem asNilEnd (w : World) : (Instr.typeAssert .nilIface 20 76 true).run Try.prog w = .ok (.tuple #[.agg #[], .bool false]) w := by kernel_rfl
theorem asImgEnd (w : World) (v : Value) : (Instr.typeAssert (.iface 79 v) 20 76 true).run Try.prog w = .ok (.tuple #[.agg #[], .bool false]) w := by kernel_rfl
theorem asEndEnd (w : World) (v : Value) : (Instr.typeAssert (.iface 76 v) 20 76 true).run Try.prog w = .ok (.tuple #[v, .bool true]) w := by kernel_rfl
theorem asImg (w : World) (v : Value) : (Instr.typeAssert (.iface 79 v) 20 79 false).run Try.prog w = .ok v w := by kernel_rfl
attribute [local go_sem] asNilEnd asImgEnd asEndEnd asImg
theorem whatB_min : whatB (-1) = 254 := rfl
theorem imgB_len (x : Img) : (imgB x).length = 3 + x.bytes.length := by
  simp only [imgB, List.length_append, tot_rowB [x.zone, whatB x.what] [1, 1] rfl, List.length_cons]
  have : tot [1, 1] = 2 := rfl
  omega
/-- The source of a second append: newer than the row at the first one. -/
theorem app_src {w5 w7 w8 : World} {M1 : Ms} {base n5 : Nat} {e1 e7 : TypeId} {v5 v7 v8 : Value} {l5 l7 : List UInt8} (h5 : OwR w5 M1 base e1 v5 l5) (_hb : Below w5.heap.size w5 w7) (_h5' : OwR w7 M1 base e1 v5 l5) (h7 : OwR w7 noM n5 e7 v7 l7) (hn : w5.heap.size ≤ n5) (hg : w7.grownBy w8 v5.ownBlock) (hat : v8.ownBlock = v5.ownBlock ∨ v8.ownBlock = some w7.heap.size) :
    SlR w8 (fun b => noM b ∨ v8.ownBlock = some b) v7 l7 := by
  have hne : ∀ g, v7.ownBlock = some g → v5.ownBlock ≠ some g := fun g e e' => by have a1 := h5.own_lt e'; have a2 := h7.own_ge e; omega
  have h8 : OwR w8 noM n5 e7 v7 l7 := h7.keptP plU hg (by
    cases h : v7.ownBlock with
    | none => exact .inl rfl
    | some g => exact .inr fun e => hne g h e.symm)
  refine (OwR.pl plU h8).sl' fun b hb hm => hm.elim (fun h => h) fun h => ?_
  rcases hat with h' | h'
  · exact hne b hb (h'.symm.trans h)
  · have a1 := h7.own_lt hb
    rw [h'] at h
    injection h with h
    omega
theorem rowR_len (r : Rc) : (rowB (numsOf r) szR).length = 11 := by rw [tot_rowB (numsOf r) szR rfl]; rfl

set_option maxHeartbeats 4000000 in
theorem rbytes_no (g : Geo) (r : Rc) (v : Value) (w : World) (Mi : Ms) (h : SlR w Mi v r.img.bytes) (hl : r.img.bytes.length ≤ 100000) (hno : okR g r = false) :
    Calls Try.prog 9 #[gv g, rv r v] w fun e w' => RbytesP w' w.heap.size g r e ∧ Below w.heap.size w w' := by
  obtain ⟨kind, seq, epoch, at_, of_, ⟨zone, what, bytes⟩⟩ := r
  obtain ⟨z, d, sp, sl, an⟩ := g
  simp only at h hl
  obtain ⟨a, c, rfl⟩ := h.form
  have hb1 := (Below.refl w.heap.size w).alloc (Nat.le_refl _) (.cells #[.int .i64 z, .int .i64 d, .int .i64 sp, .int .i64 sl, .int .i64 an] 23)
  have hb2 := hb1.alloc (by simp) (.cells #[.int .i64 kind, .int .i64 seq, .int .i64 epoch, .int .i64 at_, .int .i64 of_, .int .i64 zone, .int .i64 what, .slice a bytes.length c] 28)
  have hG := (Blk.new w 23 #[.int .i64 z, .int .i64 d, .int .i64 sp, .int .i64 sl, .int .i64 an]).alloc (.cells #[.int .i64 kind, .int .i64 seq, .int .i64 epoch, .int .i64 at_, .int .i64 of_, .int .i64 zone, .int .i64 what, .slice a bytes.length c] 28)
  have hT := Blk.new (w.alloc (.cells #[.int .i64 z, .int .i64 d, .int .i64 sp, .int .i64 sl, .int .i64 an] 23)) 28 #[.int .i64 kind, .int .i64 seq, .int .i64 epoch, .int .i64 at_, .int .i64 of_, .int .i64 zone, .int .i64 what, .slice a bytes.length c]
  simp only [World.size_alloc] at hT
  have hbe := Lib.hid (behind_any ⟨z, d, sp, sl, an⟩ ⟨kind, seq, epoch, at_, of_, ⟨zone, what, bytes⟩⟩ (.slice a bytes.length c) _ Mi (h.mono (Keep.below hb2)) hl)
  have HB := Lib.hid hb2
  have HG := Lib.hid hG
  have HT := Lib.hid hT
  have H := Lib.hid h.bare
  clear hb1 hb2 hG hT h
  have hgc := fun w => gcheck_any ⟨z, d, sp, sl, an⟩ w
  obtain ⟨V, hV⟩ : ∃ V, V = behV ⟨kind, seq, epoch, at_, of_, ⟨zone, what, bytes⟩⟩ (.slice a bytes.length c) := ⟨_, rfl⟩
  rw [← hV] at hbe
  unfold gv rv at hbe ⊢
  unfold gv errV at hgc
  simp only at hbe hgc ⊢
  have hN := Lib.hid hno
  have hE := Lib.hid (show (okG ⟨z, d, sp, sl, an⟩ && behOk ⟨z, d, sp, sl, an⟩ ⟨kind, seq, epoch, at_, of_, ⟨zone, what, bytes⟩⟩) = false from hno)
  clear hV hno
  obtain ⟨bo, hbo⟩ : ∃ bo, bo = behOk ⟨z, d, sp, sl, an⟩ ⟨kind, seq, epoch, at_, of_, ⟨zone, what, bytes⟩⟩ := ⟨_, rfl⟩
  obtain ⟨bg, hbg⟩ : ∃ bg, bg = okG ⟨z, d, sp, sl, an⟩ := ⟨_, rfl⟩
  rw [← hbo] at hbe hE
  rw [← hbg] at hgc hE
  clear hbo hbg
  cases bg with
  | false =>
    go_enter Try.func9, Try.ntmps9
    go_wp2_with fail
    ((with_reducible refine hbe.out.mono ?_); rintro e w1 ⟨rfl, hB1⟩)
    obtain ⟨g1, g2, g3⟩ := (HG.out.below hB1).all
    have HB1 := Lib.hid (HB.out.trans (hB1.mono HB.out.size))
    clear hB1
    go_wp2_with fail
    ((with_reducible refine (hgc _).mono ?_); rintro e w2 ⟨rfl, hB2⟩)
    have HB2 := Lib.hid (HB1.out.trans (hB2.mono HB1.out.size))
    go_wp2
    go_ret2
    exact ⟨.inr ⟨hN.out, rfl⟩, HB2.out⟩
  | true =>
    obtain rfl : bo = false := by have := hE.out; simpa using this
    go_enter Try.func9, Try.ntmps9
    go_wp2_with fail
    ((with_reducible refine hbe.out.mono ?_); rintro e w1 ⟨rfl, hB1⟩)
    obtain ⟨g1, g2, g3⟩ := (HG.out.below hB1).all
    have HB1 := Lib.hid (HB.out.trans (hB1.mono HB.out.size))
    clear hB1
    go_wp2_with fail
    ((with_reducible refine (hgc _).mono ?_); rintro e w2 ⟨rfl, hB2⟩)
    have HB2 := Lib.hid (HB1.out.trans (hB2.mono HB1.out.size))
    go_wp2
    go_ret2
    exact ⟨.inr ⟨hN.out, rfl⟩, HB2.out⟩

set_option maxRecDepth 100000 in
set_option maxHeartbeats 16000000 in
theorem rbytes_0 (g : Geo) (r : Rc) (v : Value) (w : World) (Mi : Ms) (h : SlR w Mi v r.img.bytes) (hl : r.img.bytes.length ≤ 100000) (hok : okR g r = true) (hk : r.kind = 0) :
    Calls Try.prog 9 #[gv g, rv r v] w fun e w' => RbytesP w' w.heap.size g r e ∧ Below w.heap.size w w' := by
  obtain ⟨kind, seq, epoch, at_, of_, ⟨zone, what, bytes⟩⟩ := r
  obtain ⟨z, d, sp, sl, an⟩ := g
  simp only at h hl
  obtain ⟨a, c, rfl⟩ := h.form
  have hb1 := (Below.refl w.heap.size w).alloc (Nat.le_refl _) (.cells #[.int .i64 z, .int .i64 d, .int .i64 sp, .int .i64 sl, .int .i64 an] 23)
  have hb2 := hb1.alloc (by simp) (.cells #[.int .i64 kind, .int .i64 seq, .int .i64 epoch, .int .i64 at_, .int .i64 of_, .int .i64 zone, .int .i64 what, .slice a bytes.length c] 28)
  have hG := (Blk.new w 23 #[.int .i64 z, .int .i64 d, .int .i64 sp, .int .i64 sl, .int .i64 an]).alloc (.cells #[.int .i64 kind, .int .i64 seq, .int .i64 epoch, .int .i64 at_, .int .i64 of_, .int .i64 zone, .int .i64 what, .slice a bytes.length c] 28)
  have hT := Blk.new (w.alloc (.cells #[.int .i64 z, .int .i64 d, .int .i64 sp, .int .i64 sl, .int .i64 an] 23)) 28 #[.int .i64 kind, .int .i64 seq, .int .i64 epoch, .int .i64 at_, .int .i64 of_, .int .i64 zone, .int .i64 what, .slice a bytes.length c]
  simp only [World.size_alloc] at hT
  have hbe := Lib.hid (behind_any ⟨z, d, sp, sl, an⟩ ⟨kind, seq, epoch, at_, of_, ⟨zone, what, bytes⟩⟩ (.slice a bytes.length c) _ Mi (h.mono (Keep.below hb2)) hl)
  have HB := Lib.hid hb2
  have HG := Lib.hid hG
  have HT := Lib.hid hT
  have H := Lib.hid h.bare
  clear hb1 hb2 hG hT h
  have hgc := fun w => gcheck_any ⟨z, d, sp, sl, an⟩ w
  simp only at hk
  subst hk
  have hV : behV ⟨0, seq, epoch, at_, of_, ⟨zone, what, bytes⟩⟩ (.slice a bytes.length c) = .nilIface := by simp [behV]
  have hO := Lib.hid hok
  simp only [okR, Bool.and_eq_true] at hok
  rw [hV, hok.2] at hbe
  rw [hok.1] at hgc
  unfold gv rv at hbe ⊢
  unfold gv errV at hgc
  simp only [if_true] at hbe hgc ⊢
  clear hV hok
  have hfit := Lib.hid (rec_fits hO.out)
  obtain ⟨BR, hBR⟩ : ∃ BR, BR = rowB (numsOf ⟨0, seq, epoch, at_, of_, ⟨zone, what, bytes⟩⟩) szR := ⟨_, rfl⟩
  have HBR := Lib.hid hBR
  clear hBR
  go_enter Try.func9, Try.ntmps9
  go_wp2_with fail
  ((with_reducible refine hbe.out.mono ?_); rintro e w1 ⟨rfl, hB1⟩)
  obtain ⟨g1, g2, g3⟩ := (HG.out.below hB1).all
  have HB1 := Lib.hid (HB.out.trans (hB1.mono HB.out.size))
  have HT1 := Lib.hid (HT.out.below hB1)
  clear hB1
  go_wp2_with fail
  ((with_reducible refine (hgc _).mono ?_); rintro e w2 ⟨rfl, hB2⟩)
  clear g1 g2 g3
  have HB2 := Lib.hid (HB1.out.trans (hB2.mono HB1.out.size))
  have HT2 := Lib.hid (HT1.out.below hB2)
  clear hB2
  have hS := Lib.hid (show ∀ i, w2.drew.cell? ⟨w.heap.size + 1, i, none⟩ = #[.int .i64 0, .int .i64 seq, .int .i64 epoch, .int .i64 at_, .int .i64 of_, .int .i64 zone, .int .i64 what, .slice a bytes.length c][i]? from HT2.out.drew.cell)
  go_wp2_with fail
  refine rp_enter [1, 3, 5, 7, 9] (fun W => ∀ i, W.cell? ⟨w.heap.size + 1, i, none⟩ = #[.int .i64 0, .int .i64 seq, .int .i64 epoch, .int .i64 at_, .int .i64 of_, .int .i64 zone, .int .i64 what, .slice a bytes.length c][i]?) (by kernel_rfl) ?_
  apply rp_pure 0 rfl (by kernel_rfl) (fun _ _ _ h => h) rfl
  · (intro W; go_simp; try rfl)
  · (go_simp; try rfl)
  apply rp_take 1 rfl (by kernel_rfl) (fun _ _ _ h => h) (hS.out) rfl
  · (rintro W hW; go_simp; try rfl)
  · (go_simp; try rfl)
  apply rp_pure 2 rfl (by kernel_rfl) (fun _ _ _ h => h) rfl
  · (intro W; go_simp; try rfl)
  · (go_simp; try rfl)
  apply rp_take 3 rfl (by kernel_rfl) (fun _ _ _ h => h) (hS.out) rfl
  · (rintro W hW; go_simp; try rfl)
  · (go_simp; try rfl)
  apply rp_pure 4 rfl (by kernel_rfl) (fun _ _ _ h => h) rfl
  · (intro W; go_simp; try rfl)
  · (go_simp; try rfl)
  apply rp_take 5 rfl (by kernel_rfl) (fun _ _ _ h => h) (hS.out) rfl
  · (rintro W hW; go_simp; try rfl)
  · (go_simp; try rfl)
  apply rp_pure 6 rfl (by kernel_rfl) (fun _ _ _ h => h) rfl
  · (intro W; go_simp; try rfl)
  · (go_simp; try rfl)
  apply rp_take 7 rfl (by kernel_rfl) (fun _ _ _ h => h) (hS.out) rfl
  · (rintro W hW; go_simp; try rfl)
  · (go_simp; try rfl)
  apply rp_pure 8 rfl (by kernel_rfl) (fun _ _ _ h => h) rfl
  · (intro W; go_simp; try rfl)
  · (go_simp; try rfl)
  apply rp_take 9 rfl (by kernel_rfl) (fun _ _ _ h => h) (hS.out) rfl
  · (rintro W hW; go_simp; try rfl)
  · (go_simp; try rfl)
  refine rp_two 10 11 (by kernel_rfl) rfl rfl (fun K hK => ?_) (fun K hK => ?_)
  · go_simp
    have hx1 := ((Below.refl w2.heap.size w2).alloc (Nat.le_refl _) (.cells #[.int .i64 0, .int .i64 seq, .int .i64 epoch, .int .i64 at_, .int .i64 of_] 3))
    have hx2 := hx1.alloc (by simp) (.cells #[.int .i64 1, .int .i64 4, .int .i64 4, .int .i64 1, .int .i64 1] 3)
    refine hK _ _ ⟨fun _ _ => (HT2.out.below hx1.drew).cell, ?_⟩; clear hK K
    refine rp_only 11 (by kernel_rfl) rfl (fun K hK => ?_)
    go_simp
    refine (sizes_any _).mono ?_
    rintro e w3 ⟨rfl, rfl⟩
    go_simp
    refine hK _ _ ⟨fun _ _ => (HT2.out.below hx2.drew).cell, ?_⟩; clear hK K
    refine rp_only 12 (by kernel_rfl) rfl (fun K hK => ?_)
    go_simp
    have hrow := Lib.hid (row_any (.slice (some ⟨w2.heap.size, 0, none⟩) 5 5) (.slice (some ⟨w2.heap.size + 1, 0, none⟩) 5 5) (numsOf ⟨0, seq, epoch, at_, of_, ⟨zone, what, bytes⟩⟩) szR (((w2.alloc (.cells #[.int .i64 0, .int .i64 seq, .int .i64 epoch, .int .i64 at_, .int .i64 of_] 3)).alloc (.cells #[.int .i64 1, .int .i64 4, .int .i64 4, .int .i64 1, .int .i64 1] 3)).drew) noM noM noM
      ((((OwR.litI w2 noM (numsOf ⟨0, seq, epoch, at_, of_, ⟨zone, what, bytes⟩⟩) (by simp [numsOf])).alloc (.cells #[.int .i64 1, .int .i64 4, .int .i64 4, .int .i64 1, .int .i64 1] 3)).drew).sl fun _ _ h => h)
      (((by simpa using OwR.litI (w2.alloc (.cells #[.int .i64 0, .int .i64 seq, .int .i64 epoch, .int .i64 at_, .int .i64 of_] 3)) noM szR (by simp)) : OwR ((w2.alloc (.cells #[.int .i64 0, .int .i64 seq, .int .i64 epoch, .int .i64 at_, .int .i64 of_] 3)).alloc (.cells #[.int .i64 1, .int .i64 4, .int .i64 4, .int .i64 1, .int .i64 1] 3)) noM (w2.heap.size + 1) 3 (.slice (some ⟨w2.heap.size + 1, 0, none⟩) 5 5) szR).drew.sl fun _ _ h => h) rfl (by simp [numsOf]) hfit.out)
    rw [← HBR.out] at hrow
    ((with_reducible refine hrow.out.mono ?_); rintro e w5 ⟨r5, rfl, ho5, hB5⟩)
    have HO5 := Lib.hid (And.intro (ho5.mono_base (base' := w.heap.size) (Nat.le_trans HB2.out.size hx2.drew.size)) (HB2.out.trans ((hx2.drew.trans (hB5.mono hx2.drew.size)).mono HB2.out.size)))
    have HT5 := Lib.hid ((HT2.out.below hx2.drew).below hB5)
    clear hrow ho5 hB5 hx1 hx2
    refine hK _ _ ⟨fun _ _ => HT5.out.cell, ?_⟩; clear hK K
    apply rp_pure 13 rfl (by kernel_rfl) (fun _ _ _ h => h) rfl
    · (intro W; go_simp; try rfl)
    · (go_simp; try rfl)
    apply rp_pure 14 rfl (by kernel_rfl) (fun _ _ _ h => h) rfl
    · (intro W; go_simp; try rfl)
    · (go_simp; try rfl)
    apply rp_pure 15 rfl (by kernel_rfl) (fun _ _ _ h => h) rfl
    · (intro W; go_simp; try rfl)
    · (go_simp; try rfl)
    apply rp_pure 16 rfl (by kernel_rfl) (fun _ _ _ h => h) rfl
    · (intro W; go_simp; try rfl)
    · (go_simp; try rfl)
    apply rp_pure 17 rfl (by kernel_rfl) (fun _ _ _ h => h) rfl
    · (intro W; go_simp; try rfl)
    · (go_simp; try rfl)
    refine rp_done (by kernel_rfl) ?_
    go_wp2
    go_ret2
    refine ⟨.inl ⟨hO.out, _, rfl, ?_⟩, HO5.out.2.trans (((Below.refl w5.heap.size w5).alloc (Nat.le_refl _) _).mono HO5.out.2.size)⟩
    have hf := HO5.out.1.alloc (.cells #[] 76)
    rw [HBR.out] at hf
    simpa [recB] using hf
  · go_simp
    refine (sizes_any _).mono ?_
    rintro e w3 ⟨rfl, rfl⟩
    go_simp
    have hx1 := ((Below.refl w2.heap.size w2).alloc (Nat.le_refl _) (.cells #[.int .i64 1, .int .i64 4, .int .i64 4, .int .i64 1, .int .i64 1] 3))
    have hx2 := hx1.alloc (by simp) (.cells #[.int .i64 0, .int .i64 seq, .int .i64 epoch, .int .i64 at_, .int .i64 of_] 3)
    refine hK _ _ ⟨fun _ _ => (HT2.out.below hx1.drew).cell, ?_⟩; clear hK K
    refine rp_only 10 (by kernel_rfl) rfl (fun K hK => ?_)
    go_simp
    refine hK _ _ ⟨fun _ _ => (HT2.out.below hx2.drew).cell, ?_⟩; clear hK K
    refine rp_only 12 (by kernel_rfl) rfl (fun K hK => ?_)
    go_simp
    have hrow := Lib.hid (row_any (.slice (some ⟨w2.heap.size + 1, 0, none⟩) 5 5) (.slice (some ⟨w2.heap.size, 0, none⟩) 5 5) (numsOf ⟨0, seq, epoch, at_, of_, ⟨zone, what, bytes⟩⟩) szR (((w2.alloc (.cells #[.int .i64 1, .int .i64 4, .int .i64 4, .int .i64 1, .int .i64 1] 3)).alloc (.cells #[.int .i64 0, .int .i64 seq, .int .i64 epoch, .int .i64 at_, .int .i64 of_] 3)).drew) noM noM noM
      (((by simpa [numsOf] using OwR.litI (w2.alloc (.cells #[.int .i64 1, .int .i64 4, .int .i64 4, .int .i64 1, .int .i64 1] 3)) noM (numsOf ⟨0, seq, epoch, at_, of_, ⟨zone, what, bytes⟩⟩) (by simp [numsOf])) : OwR ((w2.alloc (.cells #[.int .i64 1, .int .i64 4, .int .i64 4, .int .i64 1, .int .i64 1] 3)).alloc (.cells #[.int .i64 0, .int .i64 seq, .int .i64 epoch, .int .i64 at_, .int .i64 of_] 3)) noM (w2.heap.size + 1) 3 (.slice (some ⟨w2.heap.size + 1, 0, none⟩) 5 5) (numsOf ⟨0, seq, epoch, at_, of_, ⟨zone, what, bytes⟩⟩)).drew.sl fun _ _ h => h)
      ((((OwR.litI w2 noM szR (by simp)).alloc (.cells #[.int .i64 0, .int .i64 seq, .int .i64 epoch, .int .i64 at_, .int .i64 of_] 3)).drew).sl fun _ _ h => h) rfl (by simp [numsOf]) hfit.out)
    rw [← HBR.out] at hrow
    ((with_reducible refine hrow.out.mono ?_); rintro e w5 ⟨r5, rfl, ho5, hB5⟩)
    have HO5 := Lib.hid (And.intro (ho5.mono_base (base' := w.heap.size) (Nat.le_trans HB2.out.size hx2.drew.size)) (HB2.out.trans ((hx2.drew.trans (hB5.mono hx2.drew.size)).mono HB2.out.size)))
    have HT5 := Lib.hid ((HT2.out.below hx2.drew).below hB5)
    clear hrow ho5 hB5 hx1 hx2
    refine hK _ _ ⟨fun _ _ => HT5.out.cell, ?_⟩; clear hK K
    apply rp_pure 13 rfl (by kernel_rfl) (fun _ _ _ h => h) rfl
    · (intro W; go_simp; try rfl)
    · (go_simp; try rfl)
    apply rp_pure 14 rfl (by kernel_rfl) (fun _ _ _ h => h) rfl
    · (intro W; go_simp; try rfl)
    · (go_simp; try rfl)
    apply rp_pure 15 rfl (by kernel_rfl) (fun _ _ _ h => h) rfl
    · (intro W; go_simp; try rfl)
    · (go_simp; try rfl)
    apply rp_pure 16 rfl (by kernel_rfl) (fun _ _ _ h => h) rfl
    · (intro W; go_simp; try rfl)
    · (go_simp; try rfl)
    apply rp_pure 17 rfl (by kernel_rfl) (fun _ _ _ h => h) rfl
    · (intro W; go_simp; try rfl)
    · (go_simp; try rfl)
    refine rp_done (by kernel_rfl) ?_
    go_wp2
    go_ret2
    refine ⟨.inl ⟨hO.out, _, rfl, ?_⟩, HO5.out.2.trans (((Below.refl w5.heap.size w5).alloc (Nat.le_refl _) _).mono HO5.out.2.size)⟩
    have hf := HO5.out.1.alloc (.cells #[] 76)
    rw [HBR.out] at hf
    simpa [recB] using hf
set_option maxRecDepth 100000 in
set_option maxHeartbeats 16000000 in
theorem rbytes_2 (g : Geo) (r : Rc) (v : Value) (w : World) (Mi : Ms) (h : SlR w Mi v r.img.bytes) (hl : r.img.bytes.length ≤ 100000) (hok : okR g r = true) (hk : r.kind = 2) :
    Calls Try.prog 9 #[gv g, rv r v] w fun e w' => RbytesP w' w.heap.size g r e ∧ Below w.heap.size w w' := by
  obtain ⟨kind, seq, epoch, at_, of_, ⟨zone, what, bytes⟩⟩ := r
  obtain ⟨z, d, sp, sl, an⟩ := g
  simp only at h hl
  obtain ⟨a, c, rfl⟩ := h.form
  have hb1 := (Below.refl w.heap.size w).alloc (Nat.le_refl _) (.cells #[.int .i64 z, .int .i64 d, .int .i64 sp, .int .i64 sl, .int .i64 an] 23)
  have hb2 := hb1.alloc (by simp) (.cells #[.int .i64 kind, .int .i64 seq, .int .i64 epoch, .int .i64 at_, .int .i64 of_, .int .i64 zone, .int .i64 what, .slice a bytes.length c] 28)
  have hG := (Blk.new w 23 #[.int .i64 z, .int .i64 d, .int .i64 sp, .int .i64 sl, .int .i64 an]).alloc (.cells #[.int .i64 kind, .int .i64 seq, .int .i64 epoch, .int .i64 at_, .int .i64 of_, .int .i64 zone, .int .i64 what, .slice a bytes.length c] 28)
  have hT := Blk.new (w.alloc (.cells #[.int .i64 z, .int .i64 d, .int .i64 sp, .int .i64 sl, .int .i64 an] 23)) 28 #[.int .i64 kind, .int .i64 seq, .int .i64 epoch, .int .i64 at_, .int .i64 of_, .int .i64 zone, .int .i64 what, .slice a bytes.length c]
  simp only [World.size_alloc] at hT
  have hbe := Lib.hid (behind_any ⟨z, d, sp, sl, an⟩ ⟨kind, seq, epoch, at_, of_, ⟨zone, what, bytes⟩⟩ (.slice a bytes.length c) _ Mi (h.mono (Keep.below hb2)) hl)
  have HB := Lib.hid hb2
  have HG := Lib.hid hG
  have HT := Lib.hid hT
  have H := Lib.hid h.bare
  clear hb1 hb2 hG hT h
  have hgc := fun w => gcheck_any ⟨z, d, sp, sl, an⟩ w
  simp only at hk
  subst hk
  have hV : behV ⟨2, seq, epoch, at_, of_, ⟨zone, what, bytes⟩⟩ (.slice a bytes.length c) = .iface 76 (.agg #[]) := by simp [behV]
  have hO := Lib.hid hok
  simp only [okR, Bool.and_eq_true] at hok
  rw [hV, hok.2] at hbe
  rw [hok.1] at hgc
  unfold gv rv at hbe ⊢
  unfold gv errV at hgc
  simp only [if_true] at hbe hgc ⊢
  clear hV hok
  have hfit := Lib.hid (rec_fits hO.out)
  obtain ⟨BR, hBR⟩ : ∃ BR, BR = rowB (numsOf ⟨2, seq, epoch, at_, of_, ⟨zone, what, bytes⟩⟩) szR := ⟨_, rfl⟩
  have HBR := Lib.hid hBR
  clear hBR
  go_enter Try.func9, Try.ntmps9
  go_wp2_with fail
  ((with_reducible refine hbe.out.mono ?_); rintro e w1 ⟨rfl, hB1⟩)
  obtain ⟨g1, g2, g3⟩ := (HG.out.below hB1).all
  have HB1 := Lib.hid (HB.out.trans (hB1.mono HB.out.size))
  have HT1 := Lib.hid (HT.out.below hB1)
  clear hB1
  go_wp2_with fail
  ((with_reducible refine (hgc _).mono ?_); rintro e w2 ⟨rfl, hB2⟩)
  clear g1 g2 g3
  have HB2 := Lib.hid (HB1.out.trans (hB2.mono HB1.out.size))
  have HT2 := Lib.hid (HT1.out.below hB2)
  clear hB2
  have hS := Lib.hid (show ∀ i, w2.drew.cell? ⟨w.heap.size + 1, i, none⟩ = #[.int .i64 2, .int .i64 seq, .int .i64 epoch, .int .i64 at_, .int .i64 of_, .int .i64 zone, .int .i64 what, .slice a bytes.length c][i]? from HT2.out.drew.cell)
  go_wp2_with fail
  refine rp_enter [1, 3, 5, 7, 9] (fun W => ∀ i, W.cell? ⟨w.heap.size + 1, i, none⟩ = #[.int .i64 2, .int .i64 seq, .int .i64 epoch, .int .i64 at_, .int .i64 of_, .int .i64 zone, .int .i64 what, .slice a bytes.length c][i]?) (by kernel_rfl) ?_
  apply rp_pure 0 rfl (by kernel_rfl) (fun _ _ _ h => h) rfl
  · (intro W; go_simp; try rfl)
  · (go_simp; try rfl)
  apply rp_take 1 rfl (by kernel_rfl) (fun _ _ _ h => h) (hS.out) rfl
  · (rintro W hW; go_simp; try rfl)
  · (go_simp; try rfl)
  apply rp_pure 2 rfl (by kernel_rfl) (fun _ _ _ h => h) rfl
  · (intro W; go_simp; try rfl)
  · (go_simp; try rfl)
  apply rp_take 3 rfl (by kernel_rfl) (fun _ _ _ h => h) (hS.out) rfl
  · (rintro W hW; go_simp; try rfl)
  · (go_simp; try rfl)
  apply rp_pure 4 rfl (by kernel_rfl) (fun _ _ _ h => h) rfl
  · (intro W; go_simp; try rfl)
  · (go_simp; try rfl)
  apply rp_take 5 rfl (by kernel_rfl) (fun _ _ _ h => h) (hS.out) rfl
  · (rintro W hW; go_simp; try rfl)
  · (go_simp; try rfl)
  apply rp_pure 6 rfl (by kernel_rfl) (fun _ _ _ h => h) rfl
  · (intro W; go_simp; try rfl)
  · (go_simp; try rfl)
  apply rp_take 7 rfl (by kernel_rfl) (fun _ _ _ h => h) (hS.out) rfl
  · (rintro W hW; go_simp; try rfl)
  · (go_simp; try rfl)
  apply rp_pure 8 rfl (by kernel_rfl) (fun _ _ _ h => h) rfl
  · (intro W; go_simp; try rfl)
  · (go_simp; try rfl)
  apply rp_take 9 rfl (by kernel_rfl) (fun _ _ _ h => h) (hS.out) rfl
  · (rintro W hW; go_simp; try rfl)
  · (go_simp; try rfl)
  refine rp_two 10 11 (by kernel_rfl) rfl rfl (fun K hK => ?_) (fun K hK => ?_)
  · go_simp
    have hx1 := ((Below.refl w2.heap.size w2).alloc (Nat.le_refl _) (.cells #[.int .i64 2, .int .i64 seq, .int .i64 epoch, .int .i64 at_, .int .i64 of_] 3))
    have hx2 := hx1.alloc (by simp) (.cells #[.int .i64 1, .int .i64 4, .int .i64 4, .int .i64 1, .int .i64 1] 3)
    refine hK _ _ ⟨fun _ _ => (HT2.out.below hx1.drew).cell, ?_⟩; clear hK K
    refine rp_only 11 (by kernel_rfl) rfl (fun K hK => ?_)
    go_simp
    refine (sizes_any _).mono ?_
    rintro e w3 ⟨rfl, rfl⟩
    go_simp
    refine hK _ _ ⟨fun _ _ => (HT2.out.below hx2.drew).cell, ?_⟩; clear hK K
    refine rp_only 12 (by kernel_rfl) rfl (fun K hK => ?_)
    go_simp
    have hrow := Lib.hid (row_any (.slice (some ⟨w2.heap.size, 0, none⟩) 5 5) (.slice (some ⟨w2.heap.size + 1, 0, none⟩) 5 5) (numsOf ⟨2, seq, epoch, at_, of_, ⟨zone, what, bytes⟩⟩) szR (((w2.alloc (.cells #[.int .i64 2, .int .i64 seq, .int .i64 epoch, .int .i64 at_, .int .i64 of_] 3)).alloc (.cells #[.int .i64 1, .int .i64 4, .int .i64 4, .int .i64 1, .int .i64 1] 3)).drew) noM noM noM
      ((((OwR.litI w2 noM (numsOf ⟨2, seq, epoch, at_, of_, ⟨zone, what, bytes⟩⟩) (by simp [numsOf])).alloc (.cells #[.int .i64 1, .int .i64 4, .int .i64 4, .int .i64 1, .int .i64 1] 3)).drew).sl fun _ _ h => h)
      (((by simpa using OwR.litI (w2.alloc (.cells #[.int .i64 2, .int .i64 seq, .int .i64 epoch, .int .i64 at_, .int .i64 of_] 3)) noM szR (by simp)) : OwR ((w2.alloc (.cells #[.int .i64 2, .int .i64 seq, .int .i64 epoch, .int .i64 at_, .int .i64 of_] 3)).alloc (.cells #[.int .i64 1, .int .i64 4, .int .i64 4, .int .i64 1, .int .i64 1] 3)) noM (w2.heap.size + 1) 3 (.slice (some ⟨w2.heap.size + 1, 0, none⟩) 5 5) szR).drew.sl fun _ _ h => h) rfl (by simp [numsOf]) hfit.out)
    rw [← HBR.out] at hrow
    ((with_reducible refine hrow.out.mono ?_); rintro e w5 ⟨r5, rfl, ho5, hB5⟩)
    have HO5 := Lib.hid (And.intro (ho5.mono_base (base' := w.heap.size) (Nat.le_trans HB2.out.size hx2.drew.size)) (HB2.out.trans ((hx2.drew.trans (hB5.mono hx2.drew.size)).mono HB2.out.size)))
    have HT5 := Lib.hid ((HT2.out.below hx2.drew).below hB5)
    clear hrow ho5 hB5 hx1 hx2
    refine hK _ _ ⟨fun _ _ => HT5.out.cell, ?_⟩; clear hK K
    apply rp_pure 13 rfl (by kernel_rfl) (fun _ _ _ h => h) rfl
    · (intro W; go_simp; try rfl)
    · (go_simp; try rfl)
    apply rp_pure 14 rfl (by kernel_rfl) (fun _ _ _ h => h) rfl
    · (intro W; go_simp; try rfl)
    · (go_simp; try rfl)
    apply rp_pure 15 rfl (by kernel_rfl) (fun _ _ _ h => h) rfl
    · (intro W; go_simp; try rfl)
    · (go_simp; try rfl)
    apply rp_pure 16 rfl (by kernel_rfl) (fun _ _ _ h => h) rfl
    · (intro W; go_simp; try rfl)
    · (go_simp; try rfl)
    apply rp_pure 17 rfl (by kernel_rfl) (fun _ _ _ h => h) rfl
    · (intro W; go_simp; try rfl)
    · (go_simp; try rfl)
    refine rp_done (by kernel_rfl) ?_
    go_wp2
    go_ret2
    refine ⟨.inl ⟨hO.out, _, rfl, ?_⟩, HO5.out.2.trans (((Below.refl w5.heap.size w5).alloc (Nat.le_refl _) _).mono HO5.out.2.size)⟩
    have hf := HO5.out.1.alloc (.cells #[] 76)
    rw [HBR.out] at hf
    simpa [recB] using hf
  · go_simp
    refine (sizes_any _).mono ?_
    rintro e w3 ⟨rfl, rfl⟩
    go_simp
    have hx1 := ((Below.refl w2.heap.size w2).alloc (Nat.le_refl _) (.cells #[.int .i64 1, .int .i64 4, .int .i64 4, .int .i64 1, .int .i64 1] 3))
    have hx2 := hx1.alloc (by simp) (.cells #[.int .i64 2, .int .i64 seq, .int .i64 epoch, .int .i64 at_, .int .i64 of_] 3)
    refine hK _ _ ⟨fun _ _ => (HT2.out.below hx1.drew).cell, ?_⟩; clear hK K
    refine rp_only 10 (by kernel_rfl) rfl (fun K hK => ?_)
    go_simp
    refine hK _ _ ⟨fun _ _ => (HT2.out.below hx2.drew).cell, ?_⟩; clear hK K
    refine rp_only 12 (by kernel_rfl) rfl (fun K hK => ?_)
    go_simp
    have hrow := Lib.hid (row_any (.slice (some ⟨w2.heap.size + 1, 0, none⟩) 5 5) (.slice (some ⟨w2.heap.size, 0, none⟩) 5 5) (numsOf ⟨2, seq, epoch, at_, of_, ⟨zone, what, bytes⟩⟩) szR (((w2.alloc (.cells #[.int .i64 1, .int .i64 4, .int .i64 4, .int .i64 1, .int .i64 1] 3)).alloc (.cells #[.int .i64 2, .int .i64 seq, .int .i64 epoch, .int .i64 at_, .int .i64 of_] 3)).drew) noM noM noM
      (((by simpa [numsOf] using OwR.litI (w2.alloc (.cells #[.int .i64 1, .int .i64 4, .int .i64 4, .int .i64 1, .int .i64 1] 3)) noM (numsOf ⟨2, seq, epoch, at_, of_, ⟨zone, what, bytes⟩⟩) (by simp [numsOf])) : OwR ((w2.alloc (.cells #[.int .i64 1, .int .i64 4, .int .i64 4, .int .i64 1, .int .i64 1] 3)).alloc (.cells #[.int .i64 2, .int .i64 seq, .int .i64 epoch, .int .i64 at_, .int .i64 of_] 3)) noM (w2.heap.size + 1) 3 (.slice (some ⟨w2.heap.size + 1, 0, none⟩) 5 5) (numsOf ⟨2, seq, epoch, at_, of_, ⟨zone, what, bytes⟩⟩)).drew.sl fun _ _ h => h)
      ((((OwR.litI w2 noM szR (by simp)).alloc (.cells #[.int .i64 2, .int .i64 seq, .int .i64 epoch, .int .i64 at_, .int .i64 of_] 3)).drew).sl fun _ _ h => h) rfl (by simp [numsOf]) hfit.out)
    rw [← HBR.out] at hrow
    ((with_reducible refine hrow.out.mono ?_); rintro e w5 ⟨r5, rfl, ho5, hB5⟩)
    have HO5 := Lib.hid (And.intro (ho5.mono_base (base' := w.heap.size) (Nat.le_trans HB2.out.size hx2.drew.size)) (HB2.out.trans ((hx2.drew.trans (hB5.mono hx2.drew.size)).mono HB2.out.size)))
    have HT5 := Lib.hid ((HT2.out.below hx2.drew).below hB5)
    clear hrow ho5 hB5 hx1 hx2
    refine hK _ _ ⟨fun _ _ => HT5.out.cell, ?_⟩; clear hK K
    apply rp_pure 13 rfl (by kernel_rfl) (fun _ _ _ h => h) rfl
    · (intro W; go_simp; try rfl)
    · (go_simp; try rfl)
    apply rp_pure 14 rfl (by kernel_rfl) (fun _ _ _ h => h) rfl
    · (intro W; go_simp; try rfl)
    · (go_simp; try rfl)
    apply rp_pure 15 rfl (by kernel_rfl) (fun _ _ _ h => h) rfl
    · (intro W; go_simp; try rfl)
    · (go_simp; try rfl)
    apply rp_pure 16 rfl (by kernel_rfl) (fun _ _ _ h => h) rfl
    · (intro W; go_simp; try rfl)
    · (go_simp; try rfl)
    apply rp_pure 17 rfl (by kernel_rfl) (fun _ _ _ h => h) rfl
    · (intro W; go_simp; try rfl)
    · (go_simp; try rfl)
    refine rp_done (by kernel_rfl) ?_
    go_wp2
    go_ret2
    refine ⟨.inl ⟨hO.out, _, rfl, ?_⟩, HO5.out.2.trans (((Below.refl w5.heap.size w5).alloc (Nat.le_refl _) _).mono HO5.out.2.size)⟩
    have hf := HO5.out.1.alloc (.cells #[] 76)
    rw [HBR.out] at hf
    simpa [recB] using hf
set_option maxRecDepth 100000 in
set_option maxHeartbeats 16000000 in
theorem rbytes_1 (g : Geo) (r : Rc) (v : Value) (w : World) (Mi : Ms) (h : SlR w Mi v r.img.bytes) (hl : r.img.bytes.length ≤ 100000) (hok : okR g r = true) (hk : r.kind = 1) :
    Calls Try.prog 9 #[gv g, rv r v] w fun e w' => RbytesP w' w.heap.size g r e ∧ Below w.heap.size w w' := by
  obtain ⟨kind, seq, epoch, at_, of_, ⟨zone, what, bytes⟩⟩ := r
  obtain ⟨z, d, sp, sl, an⟩ := g
  simp only at h hl
  obtain ⟨a, c, rfl⟩ := h.form
  have hb1 := (Below.refl w.heap.size w).alloc (Nat.le_refl _) (.cells #[.int .i64 z, .int .i64 d, .int .i64 sp, .int .i64 sl, .int .i64 an] 23)
  have hb2 := hb1.alloc (by simp) (.cells #[.int .i64 kind, .int .i64 seq, .int .i64 epoch, .int .i64 at_, .int .i64 of_, .int .i64 zone, .int .i64 what, .slice a bytes.length c] 28)
  have hG := (Blk.new w 23 #[.int .i64 z, .int .i64 d, .int .i64 sp, .int .i64 sl, .int .i64 an]).alloc (.cells #[.int .i64 kind, .int .i64 seq, .int .i64 epoch, .int .i64 at_, .int .i64 of_, .int .i64 zone, .int .i64 what, .slice a bytes.length c] 28)
  have hT := Blk.new (w.alloc (.cells #[.int .i64 z, .int .i64 d, .int .i64 sp, .int .i64 sl, .int .i64 an] 23)) 28 #[.int .i64 kind, .int .i64 seq, .int .i64 epoch, .int .i64 at_, .int .i64 of_, .int .i64 zone, .int .i64 what, .slice a bytes.length c]
  simp only [World.size_alloc] at hT
  have hbe := Lib.hid (behind_any ⟨z, d, sp, sl, an⟩ ⟨kind, seq, epoch, at_, of_, ⟨zone, what, bytes⟩⟩ (.slice a bytes.length c) _ Mi (h.mono (Keep.below hb2)) hl)
  have HB := Lib.hid hb2
  have HG := Lib.hid hG
  have HT := Lib.hid hT
  have H := Lib.hid h.bare
  clear hb1 hb2 hG hT h
  have hgc := fun w => gcheck_any ⟨z, d, sp, sl, an⟩ w
  simp only at hk
  subst hk
  have hV : behV ⟨1, seq, epoch, at_, of_, ⟨zone, what, bytes⟩⟩ (.slice a bytes.length c) = .iface 79 (.agg #[.int .i64 zone, .int .i64 what, .slice a bytes.length c]) := by simp [behV]
  have hO := Lib.hid hok
  simp only [okR, Bool.and_eq_true] at hok
  rw [hV, hok.2] at hbe
  rw [hok.1] at hgc
  unfold gv rv at hbe ⊢
  unfold gv errV at hgc
  simp only [if_true] at hbe hgc ⊢
  clear hV hok
  have hfit := Lib.hid (rec_fits hO.out)
  obtain ⟨BR, hBR⟩ : ∃ BR, BR = rowB (numsOf ⟨1, seq, epoch, at_, of_, ⟨zone, what, bytes⟩⟩) szR := ⟨_, rfl⟩
  have HBR := Lib.hid hBR
  clear hBR
  go_enter Try.func9, Try.ntmps9
  go_wp2_with fail
  ((with_reducible refine hbe.out.mono ?_); rintro e w1 ⟨rfl, hB1⟩)
  obtain ⟨g1, g2, g3⟩ := (HG.out.below hB1).all
  have HB1 := Lib.hid (HB.out.trans (hB1.mono HB.out.size))
  have HT1 := Lib.hid (HT.out.below hB1)
  clear hB1
  go_wp2_with fail
  ((with_reducible refine (hgc _).mono ?_); rintro e w2 ⟨rfl, hB2⟩)
  clear g1 g2 g3
  have HB2 := Lib.hid (HB1.out.trans (hB2.mono HB1.out.size))
  have HT2 := Lib.hid (HT1.out.below hB2)
  clear hB2
  have hS := Lib.hid (show ∀ i, w2.drew.cell? ⟨w.heap.size + 1, i, none⟩ = #[.int .i64 1, .int .i64 seq, .int .i64 epoch, .int .i64 at_, .int .i64 of_, .int .i64 zone, .int .i64 what, .slice a bytes.length c][i]? from HT2.out.drew.cell)
  go_wp2_with fail
  refine rp_enter [1, 3, 5, 7, 9] (fun W => ∀ i, W.cell? ⟨w.heap.size + 1, i, none⟩ = #[.int .i64 1, .int .i64 seq, .int .i64 epoch, .int .i64 at_, .int .i64 of_, .int .i64 zone, .int .i64 what, .slice a bytes.length c][i]?) (by kernel_rfl) ?_
  apply rp_pure 0 rfl (by kernel_rfl) (fun _ _ _ h => h) rfl
  · (intro W; go_simp; try rfl)
  · (go_simp; try rfl)
  apply rp_take 1 rfl (by kernel_rfl) (fun _ _ _ h => h) (hS.out) rfl
  · (rintro W hW; go_simp; try rfl)
  · (go_simp; try rfl)
  apply rp_pure 2 rfl (by kernel_rfl) (fun _ _ _ h => h) rfl
  · (intro W; go_simp; try rfl)
  · (go_simp; try rfl)
  apply rp_take 3 rfl (by kernel_rfl) (fun _ _ _ h => h) (hS.out) rfl
  · (rintro W hW; go_simp; try rfl)
  · (go_simp; try rfl)
  apply rp_pure 4 rfl (by kernel_rfl) (fun _ _ _ h => h) rfl
  · (intro W; go_simp; try rfl)
  · (go_simp; try rfl)
  apply rp_take 5 rfl (by kernel_rfl) (fun _ _ _ h => h) (hS.out) rfl
  · (rintro W hW; go_simp; try rfl)
  · (go_simp; try rfl)
  apply rp_pure 6 rfl (by kernel_rfl) (fun _ _ _ h => h) rfl
  · (intro W; go_simp; try rfl)
  · (go_simp; try rfl)
  apply rp_take 7 rfl (by kernel_rfl) (fun _ _ _ h => h) (hS.out) rfl
  · (rintro W hW; go_simp; try rfl)
  · (go_simp; try rfl)
  apply rp_pure 8 rfl (by kernel_rfl) (fun _ _ _ h => h) rfl
  · (intro W; go_simp; try rfl)
  · (go_simp; try rfl)
  apply rp_take 9 rfl (by kernel_rfl) (fun _ _ _ h => h) (hS.out) rfl
  · (rintro W hW; go_simp; try rfl)
  · (go_simp; try rfl)
  refine rp_two 10 11 (by kernel_rfl) rfl rfl (fun K hK => ?_) (fun K hK => ?_)
  · go_simp
    have hx1 := ((Below.refl w2.heap.size w2).alloc (Nat.le_refl _) (.cells #[.int .i64 1, .int .i64 seq, .int .i64 epoch, .int .i64 at_, .int .i64 of_] 3))
    have hx2 := hx1.alloc (by simp) (.cells #[.int .i64 1, .int .i64 4, .int .i64 4, .int .i64 1, .int .i64 1] 3)
    refine hK _ _ ⟨fun _ _ => (HT2.out.below hx1.drew).cell, ?_⟩; clear hK K
    refine rp_only 11 (by kernel_rfl) rfl (fun K hK => ?_)
    go_simp
    refine (sizes_any _).mono ?_
    rintro e w3 ⟨rfl, rfl⟩
    go_simp
    refine hK _ _ ⟨fun _ _ => (HT2.out.below hx2.drew).cell, ?_⟩; clear hK K
    refine rp_only 12 (by kernel_rfl) rfl (fun K hK => ?_)
    go_simp
    have hrow := Lib.hid (row_any (.slice (some ⟨w2.heap.size, 0, none⟩) 5 5) (.slice (some ⟨w2.heap.size + 1, 0, none⟩) 5 5) (numsOf ⟨1, seq, epoch, at_, of_, ⟨zone, what, bytes⟩⟩) szR (((w2.alloc (.cells #[.int .i64 1, .int .i64 seq, .int .i64 epoch, .int .i64 at_, .int .i64 of_] 3)).alloc (.cells #[.int .i64 1, .int .i64 4, .int .i64 4, .int .i64 1, .int .i64 1] 3)).drew) noM noM noM
      ((((OwR.litI w2 noM (numsOf ⟨1, seq, epoch, at_, of_, ⟨zone, what, bytes⟩⟩) (by simp [numsOf])).alloc (.cells #[.int .i64 1, .int .i64 4, .int .i64 4, .int .i64 1, .int .i64 1] 3)).drew).sl fun _ _ h => h)
      (((by simpa using OwR.litI (w2.alloc (.cells #[.int .i64 1, .int .i64 seq, .int .i64 epoch, .int .i64 at_, .int .i64 of_] 3)) noM szR (by simp)) : OwR ((w2.alloc (.cells #[.int .i64 1, .int .i64 seq, .int .i64 epoch, .int .i64 at_, .int .i64 of_] 3)).alloc (.cells #[.int .i64 1, .int .i64 4, .int .i64 4, .int .i64 1, .int .i64 1] 3)) noM (w2.heap.size + 1) 3 (.slice (some ⟨w2.heap.size + 1, 0, none⟩) 5 5) szR).drew.sl fun _ _ h => h) rfl (by simp [numsOf]) hfit.out)
    rw [← HBR.out] at hrow
    ((with_reducible refine hrow.out.mono ?_); rintro e w5 ⟨r5, rfl, ho5, hB5⟩)
    have HO5 := Lib.hid (And.intro (ho5.mono_base (base' := w.heap.size) (Nat.le_trans HB2.out.size hx2.drew.size)) (HB2.out.trans ((hx2.drew.trans (hB5.mono hx2.drew.size)).mono HB2.out.size)))
    have HT5 := Lib.hid ((HT2.out.below hx2.drew).below hB5)
    clear hrow ho5 hB5 hx1 hx2
    refine hK _ _ ⟨fun _ _ => HT5.out.cell, ?_⟩; clear hK K
    apply rp_pure 13 rfl (by kernel_rfl) (fun _ _ _ h => h) rfl
    · (intro W; go_simp; try rfl)
    · (go_simp; try rfl)
    apply rp_pure 14 rfl (by kernel_rfl) (fun _ _ _ h => h) rfl
    · (intro W; go_simp; try rfl)
    · (go_simp; try rfl)
    apply rp_pure 15 rfl (by kernel_rfl) (fun _ _ _ h => h) rfl
    · (intro W; go_simp; try rfl)
    · (go_simp; try rfl)
    apply rp_pure 16 rfl (by kernel_rfl) (fun _ _ _ h => h) rfl
    · (intro W; go_simp; try rfl)
    · (go_simp; try rfl)
    apply rp_pure 17 rfl (by kernel_rfl) (fun _ _ _ h => h) rfl
    · (intro W; go_simp; try rfl)
    · (go_simp; try rfl)
    refine rp_done (by kernel_rfl) ?_
    have hA := (Below.refl w5.heap.size w5).alloc (Nat.le_refl _) (.cells #[] 76)
    have hAB := hA.alloc (by simp) (.cells #[.int .i64 zone, .int .i64 what, .slice a bytes.length c] 79)
    have hI := Blk.new (w5.alloc (.cells #[] 76)) 79 #[.int .i64 zone, .int .i64 what, .slice a bytes.length c]
    simp only [World.size_alloc] at hI
    have him : imgOk ⟨z, d, sp, sl, an⟩ ⟨zone, what, bytes⟩ = true := by
      rcases (okR_parts hO.out).2 with h | h | h
      · have h := h.1; simp at h
      · exact h.2.2.2.2.2
      · have h := h.1; simp at h
    have hsh := Lib.hid (img_short him)
    have hrl := row_lit [zone, whatB what] [1, 1] ((w5.alloc (.cells #[] 76)).alloc (.cells #[.int .i64 zone, .int .i64 what, .slice a bytes.length c] 79)) rfl (by simp) (img_fits him)
    obtain ⟨HD, hHD⟩ : ∃ HD, HD = rowB [zone, whatB what] [1, 1] := ⟨_, rfl⟩
    rw [← hHD] at hrl
    simp only [List.map_cons, List.map_nil, List.length_cons, List.length_nil, Nat.reduceAdd, World.size_alloc] at hrl
    have HLn := Lib.hid (And.intro (show HD.length = 2 by rw [hHD, tot_rowB [zone, whatB what] [1, 1] rfl]; rfl) (show BR.length = 11 by rw [HBR.out, rowR_len]))
    have HHD := Lib.hid hHD
    have HI := Lib.hid hI
    have HAB := Lib.hid hAB
    clear hA hAB hI him hHD
    by_cases hw : what = -1
    · subst hw
      rw [whatB_min] at hrl
      have hrl := Lib.hid hrl
      go_wp2_with fail
      ((with_reducible refine hrl.out.mono ?_); rintro e w6 ⟨r6, rfl, ho6, hB6⟩)
      obtain ⟨A6, C6, rfl⟩ := ho6.form
      obtain ⟨i1, i2, i3⟩ := (HI.out.below (by rw [World.size_alloc, World.size_alloc]; exact hB6)).all
      have HB6 := Lib.hid (HAB.out.trans (hB6.mono (by omega)))
      have HB06 := Lib.hid (HO5.out.2.trans (HB6.out.mono HO5.out.2.size))
      have HO6 := Lib.hid (ho6.mono_base (base' := w5.heap.size) (by omega))
      have hpt := Lib.hid (part_any (.slice a bytes.length c) bytes w6 noM noM (H.out.mono (Keep.below HB06.out)) (by have := hsh.out; omega))
      obtain ⟨PB, hPB⟩ : ∃ PB, PB = UInt8.ofNat bytes.length :: bytes := ⟨_, rfl⟩
      rw [← hPB] at hpt
      have hPl : PB.length = 1 + bytes.length := by rw [hPB, List.length_cons]; omega
      have HPB := Lib.hid (And.intro hPB hPl)
      clear hPB hPl hB6 ho6 hrl
      go_wp2_with fail
      ((with_reducible refine hpt.out.mono ?_); rintro e w7 ⟨r7, rfl, ho7, hB7⟩)
      obtain ⟨A7, C7, rfl⟩ := ho7.form
      have HB57 := Lib.hid (HB6.out.trans (hB7.mono HB6.out.size))
      have HB07 := Lib.hid (HO5.out.2.trans (HB57.out.mono HO5.out.2.size))
      have O5 := Lib.hid (HO5.out.1.below HB57.out)
      have O6 := HO6.out.below hB7
      have S6 := Lib.hid (show SlR w7 (fun b => noM b ∨ r5.ownBlock = some b) (.slice A6 HD.length C6) HD from (OwR.pl plU O6).sl' (fun b hb hm => hm.elim (fun h => h) (fun h => by have a1 := HO5.out.1.own_lt h; have a2 := O6.own_ge hb; omega)))
      have O7 := Lib.hid ho7
      have hl1 : BR.length + HD.length ≤ 1000000000 := by have := HLn.out; omega
      have hl2 : (BR ++ HD).length + PB.length ≤ 1000000000 := by have := HLn.out; have := HPB.out.2; have := hsh.out; rw [List.length_append]; omega
      clear O6 ho7 hB7 hpt i1 i2 i3
      have tok1 : True := trivial
      go_wp2_with (first | (at_builtin; have _t := tok1; go_must (refine wpList_append_R (α := UInt8) (M := noM) (base := w.heap.size) (l := BR) (m := HD) rfl (by rfl) tyB (by rfl) O5.out (by rfl) S6.out hl1 HB07.out.size ?_); clear tok1 _t; intro v8 w8 ho8 hg8 hat8; have HB8 := Lib.hid (HB07.out.grown hg8 HB07.out.size (fun b e => O5.out.own_ge e)); have O8 := Lib.hid ho8; have S7 := Lib.hid (app_src HO5.out.1 HB57.out O5.out O7.out (Nat.le_trans (Nat.le_refl _) HB6.out.size) hg8 hat8); clear hg8 hat8 ho8) | (at_builtin; go_must (refine wpList_append_R (α := UInt8) (M := noM) (base := w.heap.size) (l := BR ++ HD) (m := PB) rfl (by rfl) tyB (by rfl) O8.out (by rfl) S7.out hl2 HB8.out.size ?_); intro v9 w9 ho9 hg9 hat9))
      have HX := Lib.hid (And.intro ho9 (HB8.out.grown hg9 HB8.out.size (fun b e => O8.out.own_ge e)))
      clear ho9 hg9 hat9
      go_wp2
      go_ret2
      refine ⟨.inl ⟨hO.out, _, rfl, ?_⟩, HX.out.2⟩
      have hf := HX.out.1
      rw [HHD.out, HPB.out.1, HBR.out, List.append_assoc] at hf
      simpa [recB, imgB] using hf
    · rw [show whatB what = what from if_neg hw] at hrl
      have hrl := Lib.hid hrl
      have hw' : (what == -1) = false := by simpa using hw
      clear hw
      go_wp2_with fail
      ((with_reducible refine hrl.out.mono ?_); rintro e w6 ⟨r6, rfl, ho6, hB6⟩)
      obtain ⟨A6, C6, rfl⟩ := ho6.form
      obtain ⟨i1, i2, i3⟩ := (HI.out.below (by rw [World.size_alloc, World.size_alloc]; exact hB6)).all
      have HB6 := Lib.hid (HAB.out.trans (hB6.mono (by omega)))
      have HB06 := Lib.hid (HO5.out.2.trans (HB6.out.mono HO5.out.2.size))
      have HO6 := Lib.hid (ho6.mono_base (base' := w5.heap.size) (by omega))
      have hpt := Lib.hid (part_any (.slice a bytes.length c) bytes w6 noM noM (H.out.mono (Keep.below HB06.out)) (by have := hsh.out; omega))
      obtain ⟨PB, hPB⟩ : ∃ PB, PB = UInt8.ofNat bytes.length :: bytes := ⟨_, rfl⟩
      rw [← hPB] at hpt
      have hPl : PB.length = 1 + bytes.length := by rw [hPB, List.length_cons]; omega
      have HPB := Lib.hid (And.intro hPB hPl)
      clear hPB hPl hB6 ho6 hrl
      go_wp2_with fail
      ((with_reducible refine hpt.out.mono ?_); rintro e w7 ⟨r7, rfl, ho7, hB7⟩)
      obtain ⟨A7, C7, rfl⟩ := ho7.form
      have HB57 := Lib.hid (HB6.out.trans (hB7.mono HB6.out.size))
      have HB07 := Lib.hid (HO5.out.2.trans (HB57.out.mono HO5.out.2.size))
      have O5 := Lib.hid (HO5.out.1.below HB57.out)
      have O6 := HO6.out.below hB7
      have S6 := Lib.hid (show SlR w7 (fun b => noM b ∨ r5.ownBlock = some b) (.slice A6 HD.length C6) HD from (OwR.pl plU O6).sl' (fun b hb hm => hm.elim (fun h => h) (fun h => by have a1 := HO5.out.1.own_lt h; have a2 := O6.own_ge hb; omega)))
      have O7 := Lib.hid ho7
      have hl1 : BR.length + HD.length ≤ 1000000000 := by have := HLn.out; omega
      have hl2 : (BR ++ HD).length + PB.length ≤ 1000000000 := by have := HLn.out; have := HPB.out.2; have := hsh.out; rw [List.length_append]; omega
      clear O6 ho7 hB7 hpt i1 i2 i3
      have tok1 : True := trivial
      go_wp2_with (first | (at_builtin; have _t := tok1; go_must (refine wpList_append_R (α := UInt8) (M := noM) (base := w.heap.size) (l := BR) (m := HD) rfl (by rfl) tyB (by rfl) O5.out (by rfl) S6.out hl1 HB07.out.size ?_); clear tok1 _t; intro v8 w8 ho8 hg8 hat8; have HB8 := Lib.hid (HB07.out.grown hg8 HB07.out.size (fun b e => O5.out.own_ge e)); have O8 := Lib.hid ho8; have S7 := Lib.hid (app_src HO5.out.1 HB57.out O5.out O7.out (Nat.le_trans (Nat.le_refl _) HB6.out.size) hg8 hat8); clear hg8 hat8 ho8) | (at_builtin; go_must (refine wpList_append_R (α := UInt8) (M := noM) (base := w.heap.size) (l := BR ++ HD) (m := PB) rfl (by rfl) tyB (by rfl) O8.out (by rfl) S7.out hl2 HB8.out.size ?_); intro v9 w9 ho9 hg9 hat9))
      have HX := Lib.hid (And.intro ho9 (HB8.out.grown hg9 HB8.out.size (fun b e => O8.out.own_ge e)))
      clear ho9 hg9 hat9
      go_wp2
      go_ret2
      refine ⟨.inl ⟨hO.out, _, rfl, ?_⟩, HX.out.2⟩
      have hf := HX.out.1
      rw [HHD.out, HPB.out.1, HBR.out, List.append_assoc] at hf
      simpa [recB, imgB] using hf
  · go_simp
    refine (sizes_any _).mono ?_
    rintro e w3 ⟨rfl, rfl⟩
    go_simp
    have hx1 := ((Below.refl w2.heap.size w2).alloc (Nat.le_refl _) (.cells #[.int .i64 1, .int .i64 4, .int .i64 4, .int .i64 1, .int .i64 1] 3))
    have hx2 := hx1.alloc (by simp) (.cells #[.int .i64 1, .int .i64 seq, .int .i64 epoch, .int .i64 at_, .int .i64 of_] 3)
    refine hK _ _ ⟨fun _ _ => (HT2.out.below hx1.drew).cell, ?_⟩; clear hK K
    refine rp_only 10 (by kernel_rfl) rfl (fun K hK => ?_)
    go_simp
    refine hK _ _ ⟨fun _ _ => (HT2.out.below hx2.drew).cell, ?_⟩; clear hK K
    refine rp_only 12 (by kernel_rfl) rfl (fun K hK => ?_)
    go_simp
    have hrow := Lib.hid (row_any (.slice (some ⟨w2.heap.size + 1, 0, none⟩) 5 5) (.slice (some ⟨w2.heap.size, 0, none⟩) 5 5) (numsOf ⟨1, seq, epoch, at_, of_, ⟨zone, what, bytes⟩⟩) szR (((w2.alloc (.cells #[.int .i64 1, .int .i64 4, .int .i64 4, .int .i64 1, .int .i64 1] 3)).alloc (.cells #[.int .i64 1, .int .i64 seq, .int .i64 epoch, .int .i64 at_, .int .i64 of_] 3)).drew) noM noM noM
      (((by simpa [numsOf] using OwR.litI (w2.alloc (.cells #[.int .i64 1, .int .i64 4, .int .i64 4, .int .i64 1, .int .i64 1] 3)) noM (numsOf ⟨1, seq, epoch, at_, of_, ⟨zone, what, bytes⟩⟩) (by simp [numsOf])) : OwR ((w2.alloc (.cells #[.int .i64 1, .int .i64 4, .int .i64 4, .int .i64 1, .int .i64 1] 3)).alloc (.cells #[.int .i64 1, .int .i64 seq, .int .i64 epoch, .int .i64 at_, .int .i64 of_] 3)) noM (w2.heap.size + 1) 3 (.slice (some ⟨w2.heap.size + 1, 0, none⟩) 5 5) (numsOf ⟨1, seq, epoch, at_, of_, ⟨zone, what, bytes⟩⟩)).drew.sl fun _ _ h => h)
      ((((OwR.litI w2 noM szR (by simp)).alloc (.cells #[.int .i64 1, .int .i64 seq, .int .i64 epoch, .int .i64 at_, .int .i64 of_] 3)).drew).sl fun _ _ h => h) rfl (by simp [numsOf]) hfit.out)
    rw [← HBR.out] at hrow
    ((with_reducible refine hrow.out.mono ?_); rintro e w5 ⟨r5, rfl, ho5, hB5⟩)
    have HO5 := Lib.hid (And.intro (ho5.mono_base (base' := w.heap.size) (Nat.le_trans HB2.out.size hx2.drew.size)) (HB2.out.trans ((hx2.drew.trans (hB5.mono hx2.drew.size)).mono HB2.out.size)))
    have HT5 := Lib.hid ((HT2.out.below hx2.drew).below hB5)
    clear hrow ho5 hB5 hx1 hx2
    refine hK _ _ ⟨fun _ _ => HT5.out.cell, ?_⟩; clear hK K
    apply rp_pure 13 rfl (by kernel_rfl) (fun _ _ _ h => h) rfl
    · (intro W; go_simp; try rfl)
    · (go_simp; try rfl)
    apply rp_pure 14 rfl (by kernel_rfl) (fun _ _ _ h => h) rfl
    · (intro W; go_simp; try rfl)
    · (go_simp; try rfl)
    apply rp_pure 15 rfl (by kernel_rfl) (fun _ _ _ h => h) rfl
    · (intro W; go_simp; try rfl)
    · (go_simp; try rfl)
    apply rp_pure 16 rfl (by kernel_rfl) (fun _ _ _ h => h) rfl
    · (intro W; go_simp; try rfl)
    · (go_simp; try rfl)
    apply rp_pure 17 rfl (by kernel_rfl) (fun _ _ _ h => h) rfl
    · (intro W; go_simp; try rfl)
    · (go_simp; try rfl)
    refine rp_done (by kernel_rfl) ?_
    have hA := (Below.refl w5.heap.size w5).alloc (Nat.le_refl _) (.cells #[] 76)
    have hAB := hA.alloc (by simp) (.cells #[.int .i64 zone, .int .i64 what, .slice a bytes.length c] 79)
    have hI := Blk.new (w5.alloc (.cells #[] 76)) 79 #[.int .i64 zone, .int .i64 what, .slice a bytes.length c]
    simp only [World.size_alloc] at hI
    have him : imgOk ⟨z, d, sp, sl, an⟩ ⟨zone, what, bytes⟩ = true := by
      rcases (okR_parts hO.out).2 with h | h | h
      · have h := h.1; simp at h
      · exact h.2.2.2.2.2
      · have h := h.1; simp at h
    have hsh := Lib.hid (img_short him)
    have hrl := row_lit [zone, whatB what] [1, 1] ((w5.alloc (.cells #[] 76)).alloc (.cells #[.int .i64 zone, .int .i64 what, .slice a bytes.length c] 79)) rfl (by simp) (img_fits him)
    obtain ⟨HD, hHD⟩ : ∃ HD, HD = rowB [zone, whatB what] [1, 1] := ⟨_, rfl⟩
    rw [← hHD] at hrl
    simp only [List.map_cons, List.map_nil, List.length_cons, List.length_nil, Nat.reduceAdd, World.size_alloc] at hrl
    have HLn := Lib.hid (And.intro (show HD.length = 2 by rw [hHD, tot_rowB [zone, whatB what] [1, 1] rfl]; rfl) (show BR.length = 11 by rw [HBR.out, rowR_len]))
    have HHD := Lib.hid hHD
    have HI := Lib.hid hI
    have HAB := Lib.hid hAB
    clear hA hAB hI him hHD
    by_cases hw : what = -1
    · subst hw
      rw [whatB_min] at hrl
      have hrl := Lib.hid hrl
      go_wp2_with fail
      ((with_reducible refine hrl.out.mono ?_); rintro e w6 ⟨r6, rfl, ho6, hB6⟩)
      obtain ⟨A6, C6, rfl⟩ := ho6.form
      obtain ⟨i1, i2, i3⟩ := (HI.out.below (by rw [World.size_alloc, World.size_alloc]; exact hB6)).all
      have HB6 := Lib.hid (HAB.out.trans (hB6.mono (by omega)))
      have HB06 := Lib.hid (HO5.out.2.trans (HB6.out.mono HO5.out.2.size))
      have HO6 := Lib.hid (ho6.mono_base (base' := w5.heap.size) (by omega))
      have hpt := Lib.hid (part_any (.slice a bytes.length c) bytes w6 noM noM (H.out.mono (Keep.below HB06.out)) (by have := hsh.out; omega))
      obtain ⟨PB, hPB⟩ : ∃ PB, PB = UInt8.ofNat bytes.length :: bytes := ⟨_, rfl⟩
      rw [← hPB] at hpt
      have hPl : PB.length = 1 + bytes.length := by rw [hPB, List.length_cons]; omega
      have HPB := Lib.hid (And.intro hPB hPl)
      clear hPB hPl hB6 ho6 hrl
      go_wp2_with fail
      ((with_reducible refine hpt.out.mono ?_); rintro e w7 ⟨r7, rfl, ho7, hB7⟩)
      obtain ⟨A7, C7, rfl⟩ := ho7.form
      have HB57 := Lib.hid (HB6.out.trans (hB7.mono HB6.out.size))
      have HB07 := Lib.hid (HO5.out.2.trans (HB57.out.mono HO5.out.2.size))
      have O5 := Lib.hid (HO5.out.1.below HB57.out)
      have O6 := HO6.out.below hB7
      have S6 := Lib.hid (show SlR w7 (fun b => noM b ∨ r5.ownBlock = some b) (.slice A6 HD.length C6) HD from (OwR.pl plU O6).sl' (fun b hb hm => hm.elim (fun h => h) (fun h => by have a1 := HO5.out.1.own_lt h; have a2 := O6.own_ge hb; omega)))
      have O7 := Lib.hid ho7
      have hl1 : BR.length + HD.length ≤ 1000000000 := by have := HLn.out; omega
      have hl2 : (BR ++ HD).length + PB.length ≤ 1000000000 := by have := HLn.out; have := HPB.out.2; have := hsh.out; rw [List.length_append]; omega
      clear O6 ho7 hB7 hpt i1 i2 i3
      have tok1 : True := trivial
      go_wp2_with (first | (at_builtin; have _t := tok1; go_must (refine wpList_append_R (α := UInt8) (M := noM) (base := w.heap.size) (l := BR) (m := HD) rfl (by rfl) tyB (by rfl) O5.out (by rfl) S6.out hl1 HB07.out.size ?_); clear tok1 _t; intro v8 w8 ho8 hg8 hat8; have HB8 := Lib.hid (HB07.out.grown hg8 HB07.out.size (fun b e => O5.out.own_ge e)); have O8 := Lib.hid ho8; have S7 := Lib.hid (app_src HO5.out.1 HB57.out O5.out O7.out (Nat.le_trans (Nat.le_refl _) HB6.out.size) hg8 hat8); clear hg8 hat8 ho8) | (at_builtin; go_must (refine wpList_append_R (α := UInt8) (M := noM) (base := w.heap.size) (l := BR ++ HD) (m := PB) rfl (by rfl) tyB (by rfl) O8.out (by rfl) S7.out hl2 HB8.out.size ?_); intro v9 w9 ho9 hg9 hat9))
      have HX := Lib.hid (And.intro ho9 (HB8.out.grown hg9 HB8.out.size (fun b e => O8.out.own_ge e)))
      clear ho9 hg9 hat9
      go_wp2
      go_ret2
      refine ⟨.inl ⟨hO.out, _, rfl, ?_⟩, HX.out.2⟩
      have hf := HX.out.1
      rw [HHD.out, HPB.out.1, HBR.out, List.append_assoc] at hf
      simpa [recB, imgB] using hf
    · rw [show whatB what = what from if_neg hw] at hrl
      have hrl := Lib.hid hrl
      have hw' : (what == -1) = false := by simpa using hw
      clear hw
      go_wp2_with fail
      ((with_reducible refine hrl.out.mono ?_); rintro e w6 ⟨r6, rfl, ho6, hB6⟩)
      obtain ⟨A6, C6, rfl⟩ := ho6.form
      obtain ⟨i1, i2, i3⟩ := (HI.out.below (by rw [World.size_alloc, World.size_alloc]; exact hB6)).all
      have HB6 := Lib.hid (HAB.out.trans (hB6.mono (by omega)))
      have HB06 := Lib.hid (HO5.out.2.trans (HB6.out.mono HO5.out.2.size))
      have HO6 := Lib.hid (ho6.mono_base (base' := w5.heap.size) (by omega))
      have hpt := Lib.hid (part_any (.slice a bytes.length c) bytes w6 noM noM (H.out.mono (Keep.below HB06.out)) (by have := hsh.out; omega))
      obtain ⟨PB, hPB⟩ : ∃ PB, PB = UInt8.ofNat bytes.length :: bytes := ⟨_, rfl⟩
      rw [← hPB] at hpt
      have hPl : PB.length = 1 + bytes.length := by rw [hPB, List.length_cons]; omega
      have HPB := Lib.hid (And.intro hPB hPl)
      clear hPB hPl hB6 ho6 hrl
      go_wp2_with fail
      ((with_reducible refine hpt.out.mono ?_); rintro e w7 ⟨r7, rfl, ho7, hB7⟩)
      obtain ⟨A7, C7, rfl⟩ := ho7.form
      have HB57 := Lib.hid (HB6.out.trans (hB7.mono HB6.out.size))
      have HB07 := Lib.hid (HO5.out.2.trans (HB57.out.mono HO5.out.2.size))
      have O5 := Lib.hid (HO5.out.1.below HB57.out)
      have O6 := HO6.out.below hB7
      have S6 := Lib.hid (show SlR w7 (fun b => noM b ∨ r5.ownBlock = some b) (.slice A6 HD.length C6) HD from (OwR.pl plU O6).sl' (fun b hb hm => hm.elim (fun h => h) (fun h => by have a1 := HO5.out.1.own_lt h; have a2 := O6.own_ge hb; omega)))
      have O7 := Lib.hid ho7
      have hl1 : BR.length + HD.length ≤ 1000000000 := by have := HLn.out; omega
      have hl2 : (BR ++ HD).length + PB.length ≤ 1000000000 := by have := HLn.out; have := HPB.out.2; have := hsh.out; rw [List.length_append]; omega
      clear O6 ho7 hB7 hpt i1 i2 i3
      have tok1 : True := trivial
      go_wp2_with (first | (at_builtin; have _t := tok1; go_must (refine wpList_append_R (α := UInt8) (M := noM) (base := w.heap.size) (l := BR) (m := HD) rfl (by rfl) tyB (by rfl) O5.out (by rfl) S6.out hl1 HB07.out.size ?_); clear tok1 _t; intro v8 w8 ho8 hg8 hat8; have HB8 := Lib.hid (HB07.out.grown hg8 HB07.out.size (fun b e => O5.out.own_ge e)); have O8 := Lib.hid ho8; have S7 := Lib.hid (app_src HO5.out.1 HB57.out O5.out O7.out (Nat.le_trans (Nat.le_refl _) HB6.out.size) hg8 hat8); clear hg8 hat8 ho8) | (at_builtin; go_must (refine wpList_append_R (α := UInt8) (M := noM) (base := w.heap.size) (l := BR ++ HD) (m := PB) rfl (by rfl) tyB (by rfl) O8.out (by rfl) S7.out hl2 HB8.out.size ?_); intro v9 w9 ho9 hg9 hat9))
      have HX := Lib.hid (And.intro ho9 (HB8.out.grown hg9 HB8.out.size (fun b e => O8.out.own_ge e)))
      clear ho9 hg9 hat9
      go_wp2
      go_ret2
      refine ⟨.inl ⟨hO.out, _, rfl, ?_⟩, HX.out.2⟩
      have hf := HX.out.1
      rw [HHD.out, HPB.out.1, HBR.out, List.append_assoc] at hf
      simpa [recB, imgB] using hf
end Go.Proofs.Ytpknhpfbinplgaa
