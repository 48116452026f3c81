/-
The law RecTxns answers true: a transaction's records are its images, in order, and a commit.
-/
import Derived.Test.YtpknhpfbinplgaaRcWake
namespace Go.Proofs.Ytpknhpfbinplgaa
open Go.RowKit
attribute [local go_sem ↓] Go.wp_at_zero Go.wp_at_succ

theorem recs_len (seq epoch : Int) (l : List Img) : (recsOf seq epoch l).length = l.length + 1 := by
  unfold recsOf
  rw [List.length_append, imgR_len]
  simp
theorem recs_lt (seq epoch : Int) (l : List Img) {k : Nat} (hk : k < l.length) (h : k < (recsOf seq epoch l).length) : (recsOf seq epoch l)[k] = ⟨1, seq, epoch, (k : Nat), l.length + 1, l[k]⟩ := by
  have h1 : k < (imgR seq epoch (l.length + 1) l.length l).length := by rw [imgR_len]; omega
  have h2 : (recsOf seq epoch l)[k] = (imgR seq epoch (l.length + 1) l.length l)[k] := List.getElem_append_left h1
  rw [h2]
  simp [imgR]
theorem recs_last (seq epoch : Int) (l : List Img) (h : l.length < (recsOf seq epoch l).length) : (recsOf seq epoch l)[l.length] = ⟨2, seq, epoch, l.length, l.length + 1, noImg⟩ := by
  have h1 : (imgR seq epoch (l.length + 1) l.length l).length = l.length := by rw [imgR_len]; omega
  have h2 : (recsOf seq epoch l)[l.length] = [(⟨2, seq, epoch, l.length, l.length + 1, noImg⟩ : Rc)][l.length - (imgR seq epoch (l.length + 1) l.length l).length]'(by rw [h1]; simp) := List.getElem_append_right (by omega)
  rw [h2]
  simp [h1]
theorem txn_parts {g : Geo} {seq epoch : Int} {l : List Img} (h : txnE g seq epoch l = 0) : okG g = true ∧ inB seq 0 4294967295 = true ∧ inB epoch 0 4294967295 = true ∧ (∀ x ∈ l, imgOk g x = true) ∧ 1 ≤ l.length ∧ l.length ≤ 29 := by
  unfold txnE at h
  split at h
  · cases h
  · rename_i h1
    split at h
    · cases h
    · rename_i h2
      split at h
      · cases h
      · rename_i h3
        rw [Bool.not_eq_false] at h1 h2 h3
        simp only [Bool.and_eq_true] at h1
        obtain ⟨h4, h5⟩ := inB_iff.1 h3
        exact ⟨h1.1, h1.2.1, h1.2.2, by simpa using h2, by omega, by omega⟩
theorem recs_ok {g : Geo} {seq epoch : Int} {l : List Img} (h : txnE g seq epoch l = 0) {k : Nat} (hk : k < l.length) : okR g ⟨1, seq, epoch, (k : Nat), l.length + 1, l[k]⟩ = true := by
  obtain ⟨h1, h2, h3, h4, h5, h6⟩ := txn_parts h
  have h7 := h4 l[k] (List.getElem_mem hk)
  simp only [okR, h1, behOk, numsB, h2, h3, h7, Bool.true_and, Bool.and_true]
  simp only [if_neg (show ¬ (1 : Int) = 0 by omega), if_true, Bool.and_eq_true, inB_iff]
  omega
theorem recs_okL {g : Geo} {seq epoch : Int} {l : List Img} (h : txnE g seq epoch l = 0) : okR g ⟨2, seq, epoch, l.length, l.length + 1, noImg⟩ = true := by
  obtain ⟨h1, h2, h3, h4, h5, h6⟩ := txn_parts h
  simp only [okR, h1, behOk, numsB, h2, h3, Bool.true_and, Bool.and_true]
  simp only [if_neg (show ¬ (2 : Int) = 0 by omega), if_neg (show ¬ (2 : Int) = 1 by omega), if_true, Bool.and_eq_true, inB_iff, beq_iff_eq, noneB, noImg]
  simp; omega

set_option maxRecDepth 100000 in
set_option maxHeartbeats 16000000 in
theorem txns_any (g : Geo) (seq epoch : Int) (v : Value) (l : List Img) (w : World) (Mi : Ms) (h : SlR w Mi v l) :
    Calls Try.prog 4 #[gv g, .int .i64 seq, .int .i64 epoch, v] w fun e w' => e = .returned (.bool true) ∧ Below w.heap.size w w' := by
  obtain ⟨z, d, sp, sl, an⟩ := g
  obtain ⟨a, c, rfl⟩ := h.form
  have hb1 := (Below.refl w.heap.size w).alloc (Nat.le_refl _) (.cells #[.int .i64 z, .int .i64 d, .int .i64 sp, .int .i64 sl, .int .i64 an] 23)
  have HB := Lib.hid hb1
  have HG := Lib.hid (Blk.new w 23 #[.int .i64 z, .int .i64 d, .int .i64 sp, .int .i64 sl, .int .i64 an])
  have H := Lib.hid h.bare
  have hhv := Lib.hid (heavy_any _ l _ noM (h.bare.mono (Keep.below hb1)))
  unfold gv
  simp only
  clear hb1 h
  cases hh : heavyB l with
  | true =>
    rw [hh] at hhv
    clear hh
    go_enter Try.func4, Try.ntmps4
    go_wp2_with (go_at_call 15; go_must (with_reducible refine hhv.out.mono ?_); rintro e w1 ⟨rfl, rfl⟩)
    go_ret
    exact ⟨rfl, HB.out⟩
  | false =>
    rw [hh] at hhv
    obtain ⟨hl1, hl2⟩ := heavy_no hh
    have HL := Lib.hid hl2
    have htx := Lib.hid (txn_any ⟨z, d, sp, sl, an⟩ seq epoch _ l _ noM (H.out.mono (Keep.below HB.out)) (by omega) (fun x hx => by have := hl2 x hx; omega))
    unfold gv at htx
    simp only at htx
    clear hh hl2
    go_enter Try.func4, Try.ntmps4
    go_wp2_with fail
    ((with_reducible refine hhv.out.mono ?_); rintro e w1 ⟨rfl, rfl⟩)
    go_wp2_with fail
    ((with_reducible refine htx.out.mono ?_); rintro e w1 ⟨hU, hB1⟩)
    have HB1 := Lib.hid (HB.out.trans (hB1.mono HB.out.size))
    have HG1 := Lib.hid (HG.out.below hB1)
    clear hB1 htx hhv HB HG
    rcases hU with ⟨h0, vt, rfl, ho⟩ | ⟨hne, rfl⟩
    · have HT := Lib.hid h0
      have hlen := recs_len seq epoch l
      obtain ⟨A1, C1, rfl⟩ := ho.form
      rw [hlen]
      have HO := Lib.hid (ho.sl (M := noM) (fun _ _ h => h))
      rw [hlen] at HO
      have HLn := Lib.hid hlen
      have hw1 : IntKind.i64.wrap ((l.length : Int) + 1) = l.length + 1 := by rw [IntKind.wrap_i64]; omega
      have hne1 : ((((l.length + 1 : Nat)) : Int) != (l.length : Int) + 1) = false := by simp
      clear h0 hlen ho
      go_wp2_with fail
      clear hne1
      go_loopg [11] (l.length + 1) (fun gk s11 wr => ∃ k : Nat, s11 = .int .i64 k ∧ k ≤ l.length + 1 ∧ l.length + 1 - k ≤ gk ∧ Hid (Below w.heap.size w wr ∧ Below w1.heap.size w1 wr))
      case atStart => exact ⟨0, rfl, Nat.zero_le _, by omega, Lib.hid ⟨HB1.out, Below.refl _ _⟩⟩
      case round =>
        obtain ⟨k, rfl, hkl, hgk, hI⟩ := hrel
        obtain ⟨w0, rfl⟩ : ∃ w0, w0 = wr := ⟨_, rfl⟩
        have HG0 := Lib.hid (HG1.out.below hI.out.2)
        have HO0 := Lib.hid (HO.out.mono (Keep.below hI.out.2))
        by_cases hlt : k < l.length
        · have hk2 : k < (recsOf seq epoch l).length := by rw [HLn.out]; omega
          have hR := recs_lt seq epoch l hlt hk2
          obtain ⟨b, off, Ab, Cb, rfl, -, y0, y1, y2, y3, y4, y5, y6, y7, y8⟩ := rc_at HO0.out hk2
          simp only [hR] at y0 y1 y2 y3 y4 y5 y6 y7 y8
          obtain ⟨b2, off2, A2, C2, rfl, -, i1, i2, i3, i4⟩ := img_at (H.out.mono (Keep.below hI.out.1)) hlt
          have hkI : (k : Int) < ((l.length + 1 : Nat) : Int) := by omega
          have hkI2 : (k : Int) < l.length := by omega
          have hbA := (Below.refl w0.heap.size w0).alloc (Nat.le_refl _) (.cells #[.int .i64 1, .int .i64 seq, .int .i64 epoch, .int .i64 k, .int .i64 (l.length + 1), .int .i64 l[k].zone, .int .i64 l[k].what, .slice Ab l[k].bytes.length Cb] 28)
          have hQ := Blk.new w0 28 #[.int .i64 1, .int .i64 seq, .int .i64 epoch, .int .i64 k, .int .i64 (l.length + 1), .int .i64 l[k].zone, .int .i64 l[k].what, .slice Ab l[k].bytes.length Cb]
          have hck := Lib.hid (rcheck_any ⟨z, d, sp, sl, an⟩ ⟨1, seq, epoch, k, l.length + 1, l[k]⟩ (.slice Ab l[k].bytes.length Cb) _ noM (y8.mono (Keep.below hbA)) (by have := HL.out l[k] (List.getElem_mem hlt); simp only; omega))
          rw [recs_ok HT.out hlt] at hck
          unfold gv rv errV at hck
          simp only [if_true] at hck
          have HY8 := Lib.hid y8
          have HI4 := Lib.hid i4
          have HBA := Lib.hid hbA
          have HQA := Lib.hid hQ
          have HI3 := Lib.hid (And.intro i1 (And.intro i2 i3))
          obtain ⟨g1, g2, g3⟩ := (HG0.out.below hbA).all
          clear y8 i4 hbA hQ hR hk2 i1 i2 i3
          go_wp2_with fail
          clear g1 g2 g3 y0 y1 y2 y3 y4 y5 y6 y7
          ((with_reducible refine hck.out.mono ?_); rintro e w2 ⟨rfl, hB2⟩)
          have hb02 := HBA.out.trans (hB2.mono HBA.out.size)
          have HB02 := Lib.hid hb02
          have HQ2 := Lib.hid (HQA.out.below hB2)
          have hS := Lib.hid (show (∀ i, w2.drew.cell? ⟨w0.heap.size, i, none⟩ = #[.int .i64 1, .int .i64 seq, .int .i64 epoch, .int .i64 k, .int .i64 (l.length + 1), .int .i64 l[k].zone, .int .i64 l[k].what, .slice Ab l[k].bytes.length Cb][i]?) ∧ (w2.drew.cell? ⟨b2, off2 + k * 3, none⟩ = some (.int .i64 l[k].zone) ∧ w2.drew.cell? ⟨b2, off2 + k * 3 + 1, none⟩ = some (.int .i64 l[k].what) ∧ w2.drew.cell? ⟨b2, off2 + k * 3 + 2, none⟩ = some (.slice A2 l[k].bytes.length C2)) from ⟨HQ2.out.cell, below_cell hb02 HI3.out.1, below_cell hb02 HI3.out.2.1, below_cell hb02 HI3.out.2.2⟩)
          have hki := Lib.hid (kimage_any l[k] l[k] (.slice Ab l[k].bytes.length Cb) (.slice A2 l[k].bytes.length C2) w2.drew noM noM (HY8.out.mono (Keep.below (hb02.drew))) (HI4.out.mono (Keep.below (hb02.drew))) (by have := HL.out l[k] (List.getElem_mem hlt); omega))
          rw [show decide (l[k] = l[k]) = true by simp] at hki
          clear hB2 hck hb02
          go_wp2_with fail
          have hkn : ((k : Int) == l.length) = false := beq_eq_false_iff_ne.2 (by omega)
          refine rp_enter [6, 10, 14, 26] (fun V => (∀ i, V.cell? ⟨w0.heap.size, i, none⟩ = #[.int .i64 1, .int .i64 seq, .int .i64 epoch, .int .i64 k, .int .i64 (l.length + 1), .int .i64 l[k].zone, .int .i64 l[k].what, .slice Ab l[k].bytes.length Cb][i]?) ∧ (V.cell? ⟨b2, off2 + k * 3, none⟩ = some (.int .i64 l[k].zone) ∧ V.cell? ⟨b2, off2 + k * 3 + 1, none⟩ = some (.int .i64 l[k].what) ∧ V.cell? ⟨b2, off2 + k * 3 + 2, none⟩ = some (.slice A2 l[k].bytes.length C2))) (by kernel_rfl) ?_
          apply rp_pure 0 rfl (by kernel_rfl) (fun _ _ _ h => h) rfl
          · (intro W'; go_simp; try rfl)
          · (go_simp; try rfl)
          apply rp_pure 1 rfl (by kernel_rfl) (fun _ _ _ h => h) rfl
          · (intro W'; go_simp; try rfl)
          · (go_simp; try rfl)
          apply rp_pure 2 rfl (by kernel_rfl) (fun _ _ _ h => h) rfl
          · (intro W'; go_simp; try rfl)
          · (go_simp; try rfl)
          apply rp_pure 3 rfl (by kernel_rfl) (fun _ _ _ h => h) rfl
          · (intro W'; go_simp; try rfl)
          · (go_simp; try rfl)
          apply rp_pure 4 rfl (by kernel_rfl) (fun _ _ _ h => h) rfl
          · (intro W'; go_simp; try rfl)
          · (go_simp; try rfl)
          apply rp_pure 5 rfl (by kernel_rfl) (fun _ _ _ h => h) rfl
          · (intro W'; go_simp; try rfl)
          · (go_simp; try rfl)
          apply rp_take 6 rfl (by kernel_rfl) (fun _ _ _ h => h) (hS.out) rfl
          · (rintro W' ⟨sq, s0, s1, s2⟩; go_simp; try rfl)
          · (go_simp; try rfl)
          apply rp_pure 7 rfl (by kernel_rfl) (fun _ _ _ h => h) rfl
          · (intro W'; go_simp; try rfl)
          · (go_simp; try rfl)
          apply rp_pure 8 rfl (by kernel_rfl) (fun _ _ _ h => h) rfl
          · (intro W'; go_simp; try rfl)
          · (go_simp; try rfl)
          apply rp_pure 9 rfl (by kernel_rfl) (fun _ _ _ h => h) rfl
          · (intro W'; go_simp; try rfl)
          · (go_simp; try rfl)
          apply rp_take 10 rfl (by kernel_rfl) (fun _ _ _ h => h) (hS.out) rfl
          · (rintro W' ⟨sq, s0, s1, s2⟩; go_simp; try rfl)
          · (go_simp; try rfl)
          apply rp_pure 11 rfl (by kernel_rfl) (fun _ _ _ h => h) rfl
          · (intro W'; go_simp; try rfl)
          · (go_simp; try rfl)
          apply rp_pure 12 rfl (by kernel_rfl) (fun _ _ _ h => h) rfl
          · (intro W'; go_simp; try rfl)
          · (go_simp; try rfl)
          apply rp_pure 13 rfl (by kernel_rfl) (fun _ _ _ h => h) rfl
          · (intro W'; go_simp; try rfl)
          · (go_simp; try rfl)
          apply rp_take 14 rfl (by kernel_rfl) (fun _ _ _ h => h) (hS.out) rfl
          · (rintro W' ⟨sq, s0, s1, s2⟩; go_simp; try rfl)
          · (go_simp; try rfl)
          refine rp_only 15 (by kernel_rfl) rfl (fun K hK => ?_)
          go_simp
          ((with_reducible refine hki.out.mono ?_); rintro e w3 ⟨rfl, hB3⟩)
          have HB03 := Lib.hid (HB02.out.trans (((below_drew w2).trans hB3).mono HB02.out.size))
          refine hK _ _ ⟨fun _ _ => ⟨(HQ2.out.drew.below hB3).cell, below_cell hB3 hS.out.2.1, below_cell hB3 hS.out.2.2.1, below_cell hB3 hS.out.2.2.2⟩, ?_⟩; clear hK K
          clear hB3 hki
          apply rp_pure 16 rfl (by kernel_rfl) (fun _ _ _ h => h) rfl
          · (intro W'; go_simp; try rfl)
          · (go_simp; try rfl)
          apply rp_pure 17 rfl (by kernel_rfl) (fun _ _ _ h => h) rfl
          · (intro W'; go_simp; try rfl)
          · (go_simp; try rfl)
          apply rp_pure 18 rfl (by kernel_rfl) (fun _ _ _ h => h) rfl
          · (intro W'; go_simp; try rfl)
          · (go_simp; try rfl)
          apply rp_pure 19 rfl (by kernel_rfl) (fun _ _ _ h => h) rfl
          · (intro W'; go_simp; try rfl)
          · (go_simp; try rfl)
          apply rp_pure 20 rfl (by kernel_rfl) (fun _ _ _ h => h) rfl
          · (intro W'; go_simp; try rfl)
          · (go_simp; try rfl)
          apply rp_pure 21 rfl (by kernel_rfl) (fun _ _ _ h => h) rfl
          · (intro W'; go_simp; try rfl)
          · (go_simp; try rfl)
          apply rp_pure 22 rfl (by kernel_rfl) (fun _ _ _ h => h) rfl
          · (intro W'; go_simp; try rfl)
          · (go_simp; try rfl)
          apply rp_pure 23 rfl (by kernel_rfl) (fun _ _ _ h => h) rfl
          · (intro W'; go_simp; try rfl)
          · (go_simp; try rfl)
          apply rp_pure 24 rfl (by kernel_rfl) (fun _ _ _ h => h) rfl
          · (intro W'; go_simp; try rfl)
          · (go_simp; try rfl)
          apply rp_skip 25 rfl (by kernel_rfl) (fun _ _ _ h => h) rfl
          · (go_simp; try rfl)
          apply rp_skip 26 rfl (by kernel_rfl) (fun _ _ _ h => h) rfl
          · (go_simp; try rfl)
          apply rp_skip 27 rfl (by kernel_rfl) (fun _ _ _ h => h) rfl
          · (go_simp; try rfl)
          apply rp_pure 28 rfl (by kernel_rfl) (fun _ _ _ h => h) rfl
          · (intro W'; go_simp; try rfl)
          · (go_simp; try rfl)
          apply rp_pure 29 rfl (by kernel_rfl) (fun _ _ _ h => h) rfl
          · (intro W'; go_simp; try rfl)
          · (go_simp; try rfl)
          refine rp_done (by kernel_rfl) ?_
          clear hS
          go_wp2
          go_roundg (l.length + 1 - (k + 1))
          case measure => omega
          case rel => exact ⟨k + 1, by go_num, by omega, by omega, Lib.hid ⟨hI.out.1.trans (HB03.out.mono hI.out.1.size), hI.out.2.trans (HB03.out.mono hI.out.2.size)⟩⟩
        · by_cases hlt2 : k = l.length
          · subst hlt2
            have hk2 : l.length < (recsOf seq epoch l).length := by rw [HLn.out]; omega
            have hR := recs_last seq epoch l hk2
            obtain ⟨b, off, Ab, Cb, rfl, -, y0, y1, y2, y3, y4, y5, y6, y7, y8⟩ := rc_at HO0.out hk2
            simp only [hR, noImg, List.length_nil] at y0 y1 y2 y3 y4 y5 y6 y7 y8
            have hkI : (l.length : Int) < ((l.length + 1 : Nat) : Int) := by omega
            have hbA := (Below.refl w0.heap.size w0).alloc (Nat.le_refl _) (.cells #[.int .i64 2, .int .i64 seq, .int .i64 epoch, .int .i64 l.length, .int .i64 (l.length + 1), .int .i64 0, .int .i64 0, .slice Ab 0 Cb] 28)
            have hQ := Blk.new w0 28 #[.int .i64 2, .int .i64 seq, .int .i64 epoch, .int .i64 l.length, .int .i64 (l.length + 1), .int .i64 0, .int .i64 0, .slice Ab 0 Cb]
            have hck := Lib.hid (rcheck_any ⟨z, d, sp, sl, an⟩ ⟨2, seq, epoch, l.length, l.length + 1, noImg⟩ (.slice Ab 0 Cb) _ noM (y8.mono (Keep.below hbA)) (by simp [noImg]))
            rw [recs_okL HT.out] at hck
            unfold gv rv errV at hck
            simp only [if_true, noImg] at hck
            have HBA := Lib.hid hbA
            have HQA := Lib.hid hQ
            obtain ⟨g1, g2, g3⟩ := (HG0.out.below hbA).all
            clear y8 hbA hQ hR hk2 hlt
            go_wp2_with fail
            clear g1 g2 g3 y0 y1 y2 y3 y4 y5 y6 y7
            ((with_reducible refine hck.out.mono ?_); rintro e w2 ⟨rfl, hB2⟩)
            have hb02 := HBA.out.trans (hB2.mono HBA.out.size)
            have HB02 := Lib.hid hb02
            have HB03 := Lib.hid hb02.drew
            have HQ2 := Lib.hid (HQA.out.below hB2)
            have hS := Lib.hid HQ2.out.drew.cell
            clear hB2 hck hb02
            go_wp2_with fail
            refine rp_enter [6, 10, 14, 26] (fun V => (∀ i, V.cell? ⟨w0.heap.size, i, none⟩ = #[.int .i64 2, .int .i64 seq, .int .i64 epoch, .int .i64 l.length, .int .i64 (l.length + 1), .int .i64 0, .int .i64 0, .slice Ab 0 Cb][i]?)) (by kernel_rfl) ?_
            apply rp_pure 0 rfl (by kernel_rfl) (fun _ _ _ h => h) rfl
            · (intro W'; go_simp; try rfl)
            · (go_simp; try rfl)
            apply rp_pure 1 rfl (by kernel_rfl) (fun _ _ _ h => h) rfl
            · (intro W'; go_simp; try rfl)
            · (go_simp; try rfl)
            apply rp_pure 2 rfl (by kernel_rfl) (fun _ _ _ h => h) rfl
            · (intro W'; go_simp; try rfl)
            · (go_simp; try rfl)
            apply rp_pure 3 rfl (by kernel_rfl) (fun _ _ _ h => h) rfl
            · (intro W'; go_simp; try rfl)
            · (go_simp; try rfl)
            apply rp_pure 4 rfl (by kernel_rfl) (fun _ _ _ h => h) rfl
            · (intro W'; go_simp; try rfl)
            · (go_simp; try rfl)
            apply rp_skip 5 rfl (by kernel_rfl) (fun _ _ _ h => h) rfl
            · (go_simp; try rfl)
            apply rp_skip 6 rfl (by kernel_rfl) (fun _ _ _ h => h) rfl
            · (go_simp; try rfl)
            apply rp_skip 7 rfl (by kernel_rfl) (fun _ _ _ h => h) rfl
            · (go_simp; try rfl)
            apply rp_skip 8 rfl (by kernel_rfl) (fun _ _ _ h => h) rfl
            · (go_simp; try rfl)
            apply rp_skip 9 rfl (by kernel_rfl) (fun _ _ _ h => h) rfl
            · (go_simp; try rfl)
            apply rp_skip 10 rfl (by kernel_rfl) (fun _ _ _ h => h) rfl
            · (go_simp; try rfl)
            apply rp_skip 11 rfl (by kernel_rfl) (fun _ _ _ h => h) rfl
            · (go_simp; try rfl)
            apply rp_skip 12 rfl (by kernel_rfl) (fun _ _ _ h => h) rfl
            · (go_simp; try rfl)
            apply rp_skip 13 rfl (by kernel_rfl) (fun _ _ _ h => h) rfl
            · (go_simp; try rfl)
            apply rp_skip 14 rfl (by kernel_rfl) (fun _ _ _ h => h) rfl
            · (go_simp; try rfl)
            apply rp_skip 15 rfl (by kernel_rfl) (fun _ _ _ h => h) rfl
            · (go_simp; try rfl)
            apply rp_skip 16 rfl (by kernel_rfl) (fun _ _ _ h => h) rfl
            · (go_simp; try rfl)
            apply rp_skip 17 rfl (by kernel_rfl) (fun _ _ _ h => h) rfl
            · (go_simp; try rfl)
            apply rp_pure 18 rfl (by kernel_rfl) (fun _ _ _ h => h) rfl
            · (intro W'; go_simp; try rfl)
            · (go_simp; try rfl)
            apply rp_pure 19 rfl (by kernel_rfl) (fun _ _ _ h => h) rfl
            · (intro W'; go_simp; try rfl)
            · (go_simp; try rfl)
            apply rp_pure 20 rfl (by kernel_rfl) (fun _ _ _ h => h) rfl
            · (intro W'; go_simp; try rfl)
            · (go_simp; try rfl)
            apply rp_pure 21 rfl (by kernel_rfl) (fun _ _ _ h => h) rfl
            · (intro W'; go_simp; try rfl)
            · (go_simp; try rfl)
            apply rp_pure 22 rfl (by kernel_rfl) (fun _ _ _ h => h) rfl
            · (intro W'; go_simp; try rfl)
            · (go_simp; try rfl)
            apply rp_pure 23 rfl (by kernel_rfl) (fun _ _ _ h => h) rfl
            · (intro W'; go_simp; try rfl)
            · (go_simp; try rfl)
            apply rp_pure 24 rfl (by kernel_rfl) (fun _ _ _ h => h) rfl
            · (intro W'; go_simp; try rfl)
            · (go_simp; try rfl)
            apply rp_pure 25 rfl (by kernel_rfl) (fun _ _ _ h => h) rfl
            · (intro W'; go_simp; try rfl)
            · (go_simp; try rfl)
            apply rp_take 26 rfl (by kernel_rfl) (fun _ _ _ h => h) (hS.out) rfl
            · (rintro W' hW; go_simp; try rfl)
            · (go_simp; try rfl)
            apply rp_pure 27 rfl (by kernel_rfl) (fun _ _ _ h => h) rfl
            · (intro W'; go_simp; try rfl)
            · (go_simp; try rfl)
            apply rp_pure 28 rfl (by kernel_rfl) (fun _ _ _ h => h) rfl
            · (intro W'; go_simp; try rfl)
            · (go_simp; try rfl)
            apply rp_pure 29 rfl (by kernel_rfl) (fun _ _ _ h => h) rfl
            · (intro W'; go_simp; try rfl)
            · (go_simp; try rfl)
            refine rp_done (by kernel_rfl) ?_
            clear hS
            go_wp2
            go_roundg (l.length + 1 - (l.length + 1))
            case measure => omega
            case rel => exact ⟨l.length + 1, by go_num, by omega, by omega, Lib.hid ⟨hI.out.1.trans (HB03.out.mono hI.out.1.size), hI.out.2.trans (HB03.out.mono hI.out.2.size)⟩⟩
          · obtain rfl : k = l.length + 1 := by omega
            have hwk := fun w' => wakes_any w'
            go_wp2_with (go_at_call 10; go_must (with_reducible refine (hwk _).mono ?_); rintro e w3 ⟨rfl, hB3⟩)
            go_ret
            exact ⟨rfl, hI.out.1.trans (hB3.mono hI.out.1.size)⟩
    · have hwk := fun w' => wakes_any w'
      have hne' : (txnE ⟨z, d, sp, sl, an⟩ seq epoch l != 0) = true := by simpa using hne
      clear hne
      go_wp2_with (go_at_call 10; go_must (with_reducible refine (hwk _).mono ?_); rintro e w3 ⟨rfl, hB3⟩)
      go_ret
      exact ⟨rfl, HB1.out.trans (hB3.mono HB1.out.size)⟩
end Go.Proofs.Ytpknhpfbinplgaa
