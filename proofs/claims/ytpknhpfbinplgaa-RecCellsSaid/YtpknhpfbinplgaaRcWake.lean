/-
The law's own small parts: Heavy, wakes.
-/
import Derived.Test.YtpknhpfbinplgaaRcTxn
import Derived.Test.YtpknhpfbinplgaaRcPlain
import Derived.Test.YtpknhpfbinplgaaRcKeep
import Derived.Laws.MakeOwn
namespace Go.Proofs.Ytpknhpfbinplgaa
open Go.RowKit
attribute [local go_sem ↓] Go.wp_at_zero Go.wp_at_succ

def heavyB (l : List Img) : Bool := decide (40 < l.length) || l.any fun x => decide (200 < x.bytes.length)
set_option maxHeartbeats 1000000 in
theorem heavy_any (v : Value) (l : List Img) (w : World) (M : Ms) (h : SlR w M v l) :
    Calls Try.prog 15 #[v] w fun e w' => e = .returned (.bool (heavyB l)) ∧ w = w' := by
  obtain ⟨a, c, rfl⟩ := h.form
  have hcp := h.cap
  have H := Lib.hid h
  clear h
  by_cases h80 : 40 < l.length
  · have hE := Lib.hid (show heavyB l = true by simp [heavyB, h80])
    have h80' : (40 : Int) < l.length := by omega
    go_enter Try.func15, Try.ntmps15
    go_wp2
    go_ret
    rw [hE.out]
    exact ⟨rfl, rfl⟩
  have h80' : ¬ (40 : Int) < l.length := by omega
  have H80 := Lib.hid h80
  clear hcp
  go_enter Try.func15, Try.ntmps15
  go_wp2
  clear h80'
  go_loopw [3] (fun i wr => wr = w ∧ ∃ k : Nat, k ≤ l.length ∧ i = .int .i64 k ∧ Hid (∀ j (hj : j < l.length), j < k → decide (200 < l[j].bytes.length) = false)) (fun i _ => l.length - (intOf i).toNat)
  case atStart => exact ⟨rfl, 0, Nat.zero_le _, rfl, Lib.hid fun j _ hj => absurd hj (Nat.not_lt_zero _)⟩
  case round =>
    obtain ⟨rfl, k, hk, rfl, hA⟩ := hrel
    by_cases hlt : k < l.length
    · obtain ⟨b1, o1, A1, C1, rfl, -, x1, y1, z1, s1⟩ := img_at H.out hlt
      have hlt' : (k : Int) < l.length := by omega
      have hcs := s1.cap
      clear s1
      by_cases h20 : 200 < l[k].bytes.length
      · have hE := Lib.hid (show heavyB l = true by
          simp only [heavyB, Bool.or_eq_true, List.any_eq_true]
          exact .inr ⟨l[k], List.getElem_mem hlt, by simpa using h20⟩)
        have h20' : (200 : Int) < l[k].bytes.length := by omega
        go_wp2
        go_ret
        rw [hE.out]
        exact ⟨rfl, rfl⟩
      · have hE := Lib.hid (show ∀ j (hj : j < l.length), j < k + 1 → decide (200 < l[j].bytes.length) = false from fun j hj hjk => by
          by_cases e : j = k
          · subst e; exact decide_eq_false h20
          · exact hA.out j hj (by omega))
        have h20' : ¬ (200 : Int) < l[k].bytes.length := by omega
        go_wp2
        go_roundw
        case rel => exact ⟨trivial, k + 1, by omega, by go_num, hE⟩
        case measure => simp [intOf]; omega
    · obtain rfl : k = l.length := by omega
      have hE := Lib.hid (show heavyB l = false by
        simp only [heavyB, Bool.or_eq_false_iff]
        refine ⟨decide_eq_false H80.out, ?_⟩
        rw [List.any_eq_false]
        intro x hx
        obtain ⟨j, hj, rfl⟩ := List.getElem_of_mem hx
        have := hA.out j hj hj
        simpa using this)
      go_wp2
      go_ret
      rw [hE.out]
      exact ⟨rfl, rfl⟩
theorem heavy_no {l : List Img} (h : heavyB l = false) : l.length ≤ 40 ∧ ∀ x ∈ l, x.bytes.length ≤ 200 := by
  simp only [heavyB, Bool.or_eq_false_iff, decide_eq_false_iff_not, List.any_eq_false, decide_eq_true_eq] at h
  exact ⟨by omega, fun x hx => by have := h.2 x hx; omega⟩

theorem mk8 (w : World) : (Instr.makeSlice 24 (.int .i64 8) (.int .i64 8)).run Try.prog w = .ok (.slice (some ⟨w.heap.size, 0, none⟩) 8 8) (w.alloc (.cells #[.int .u8 0, .int .u8 0, .int .u8 0, .int .u8 0, .int .u8 0, .int .u8 0, .int .u8 0, .int .u8 0] 5)) := by
  obtain ⟨i, h1, h2, h3, h4⟩ := info_parts (show (Try.prog.info? 5).map (fun i => (i.zero, i.size, i.bytes)) = some (some (.int .u8 0), 1, 1) by kernel_rfl)
  have := run_make (P := Try.prog) w 24 5 i (.int .u8 0) (by kernel_rfl) h1 h2 .i64 .i64 8 8 (by omega) (by omega) (by rw [h4]; omega) (by omega)
  rw [h3] at this
  rw [show madeCells (Value.int IntKind.u8 0).cells (Int.toNat 8 * 1) = #[.int .u8 0, .int .u8 0, .int .u8 0, .int .u8 0, .int .u8 0, .int .u8 0, .int .u8 0, .int .u8 0] by kernel_rfl] at this
  exact this
attribute [local go_sem] mk8
def gW : Geo := ⟨1, 1, 0, 14, 1⟩
def iW : Img := ⟨0, -1, [0, 0, 0, 0, 0, 0, 0, 0]⟩
def rW : Rc := ⟨1, 3, 2, 0, 2, iW⟩
theorem wake_ok : okR gW rW = true := by decide
theorem wake_txn : txnE gW 3 2 [iW] = 0 := by decide
theorem wake_recs : recsOf 3 2 [iW] = [rW, ⟨2, 3, 2, 1, 2, noImg⟩] := by decide
theorem wake_len : (recB rW).length = 22 := by rw [recB_len wake_ok]; rfl
theorem wake_bad : okR gW ⟨0, 1, 0, 0, 0, noImg⟩ = false := by decide

set_option maxRecDepth 100000 in
set_option maxHeartbeats 16000000 in
theorem wakes_any (w : World) : Calls Try.prog 10 #[] w fun e w' => e = .returned (.bool true) ∧ Below w.heap.size w w' := by
  have hc0 := Lib.hid (some0_any w)
  unfold gv at hc0
  simp only at hc0
  go_enter Try.func10, Try.ntmps10
  go_wp2_with fail
  ((with_reducible refine hc0.out.mono ?_); rintro e w1 ⟨rfl, hB1⟩)
  have hbA := (Below.refl w1.heap.size w1).alloc (Nat.le_refl _) (.cells #[.int .i64 1, .int .i64 1, .int .i64 0, .int .i64 14, .int .i64 1] 23)
  have HB := Lib.hid (hB1.trans (hbA.mono hB1.size))
  have HG := Lib.hid (Blk.new w1 23 #[.int .i64 1, .int .i64 1, .int .i64 0, .int .i64 14, .int .i64 1])
  clear hB1 hbA hc0
  go_wp2_with fail
  obtain ⟨W, hW⟩ : ∃ W, W = w1.alloc (.cells #[.int .i64 1, .int .i64 1, .int .i64 0, .int .i64 14, .int .i64 1] 23) := ⟨_, rfl⟩
  obtain ⟨q, hq⟩ : ∃ q, q = w1.heap.size := ⟨_, rfl⟩
  rw [← hW] at HB HG ⊢
  rw [← hq] at HG ⊢
  clear hW hq
  have hS := Lib.hid HG.out.drew.cell
  refine rp_enter [0] (fun V => ∀ i, V.cell? ⟨q, i, none⟩ = #[.int .i64 1, .int .i64 1, .int .i64 0, .int .i64 14, .int .i64 1][i]?) (by kernel_rfl) ?_
  apply rp_take 0 rfl (by kernel_rfl) (fun _ _ _ h => h) (hS.out) rfl
  · (rintro W hW; go_simp; try rfl)
  · (go_simp; try rfl)
  refine rp_only 1 (by kernel_rfl) rfl (fun K hK => ?_)
  go_simp
  have hx1 := (Below.refl W.heap.size W).alloc (Nat.le_refl _) (.cells #[.int .u8 0, .int .u8 0, .int .u8 0, .int .u8 0, .int .u8 0, .int .u8 0, .int .u8 0, .int .u8 0] 5)
  have hx2 := hx1.alloc (by simp) (.cells #[.int .i64 0, .int .i64 (-1), .slice (some ⟨W.heap.size, 0, none⟩) 8 8] 26)
  have ho8 : OwR (W.alloc (.cells #[.int .u8 0, .int .u8 0, .int .u8 0, .int .u8 0, .int .u8 0, .int .u8 0, .int .u8 0, .int .u8 0] 5)) noM W.heap.size 5 (.slice (some ⟨W.heap.size, 0, none⟩) 8 8) iW.bytes := OwR.litB W noM iW.bytes (by decide)
  have hEi : Rp.E (α := Img) ((W.alloc (.cells #[.int .u8 0, .int .u8 0, .int .u8 0, .int .u8 0, .int .u8 0, .int .u8 0, .int .u8 0, .int .u8 0] 5)).alloc (.cells #[.int .i64 0, .int .i64 (-1), .slice (some ⟨W.heap.size, 0, none⟩) 8 8] 26)) noM [.int .i64 0, .int .i64 (-1), .slice (some ⟨W.heap.size, 0, none⟩) 8 8] iW :=
    ⟨_, rfl, (ho8.alloc (.cells #[.int .i64 0, .int .i64 (-1), .slice (some ⟨W.heap.size, 0, none⟩) 8 8] 26)).sl (fun _ _ h => h)⟩
  have hsl := (SlR.one (α := Img) (M := noM) (x := iW) (Blk.new (W.alloc (.cells #[.int .u8 0, .int .u8 0, .int .u8 0, .int .u8 0, .int .u8 0, .int .u8 0, .int .u8 0, .int .u8 0] 5)) 26 #[.int .i64 0, .int .i64 (-1), .slice (some ⟨W.heap.size, 0, none⟩) 8 8]) hEi (fun h => h)).mono (Keep.below (below_drew _))
  have htx := Lib.hid (txn_any gW 3 2 _ [iW] _ noM hsl (by simp) (by decide))
  unfold gv gW at htx
  simp only [World.size_alloc] at htx
  have HX1 := Lib.hid hx1
  have HX2 := Lib.hid hx2
  clear hx1 hx2 ho8 hsl hEi
  refine hK _ _ ⟨fun _ _ => (HG.out.below HX1.out.drew).cell, ?_⟩; clear hK K
  apply rp_pure 2 rfl (by kernel_rfl) (fun _ _ _ h => h) rfl
  · (intro W; go_simp; try rfl)
  · (go_simp; try rfl)
  refine rp_only 3 (by kernel_rfl) rfl (fun K hK => ?_)
  go_simp
  refine hK _ _ ⟨fun _ _ => (HG.out.below HX2.out.drew).cell, ?_⟩; clear hK K
  refine rp_only 4 (by kernel_rfl) rfl (fun K hK => ?_)
  go_simp
  ((with_reducible refine htx.out.mono ?_); rintro e w3 ⟨hU, hB3⟩)
  rcases hU with ⟨-, v3, rfl, ho3⟩ | ⟨hbad, -⟩
  case inr => exact absurd wake_txn hbad
  rw [wake_recs] at ho3
  have HB3 := Lib.hid (HB.out.trans ((HX2.out.drew.trans (hB3.mono (HX2.out.drew).size)).mono HB.out.size))
  have HG3 := Lib.hid ((HG.out.below HX2.out.drew).below hB3)
  clear htx hB3
  refine hK _ _ ⟨fun _ _ => HG3.out.cell, ?_⟩; clear hK K
  apply rp_pure 5 rfl (by kernel_rfl) (fun _ _ _ h => h) rfl
  · (intro W; go_simp; try rfl)
  · (go_simp; try rfl)
  apply rp_pure 6 rfl (by kernel_rfl) (fun _ _ _ h => h) rfl
  · (intro W; go_simp; try rfl)
  · (go_simp; try rfl)
  apply rp_pure 7 rfl (by kernel_rfl) (fun _ _ _ h => h) rfl
  · (intro W; go_simp; try rfl)
  · (go_simp; try rfl)
  apply rp_pure 8 rfl (by kernel_rfl) (fun _ _ _ h => h) rfl
  · (intro W; go_simp; try rfl)
  · (go_simp; try rfl)
  apply rp_pure 9 rfl (by kernel_rfl) (fun _ _ _ h => h) rfl
  · (intro W; go_simp; try rfl)
  · (go_simp; try rfl)
  refine rp_done (by kernel_rfl) ?_
  obtain ⟨A3, C3, rfl⟩ := ho3.form
  have S3 := Lib.hid (ho3.sl (M := noM) (fun _ _ h => h))
  clear ho3 hS
  obtain ⟨b, off, Ab, Cb, rfl, -, y0, y1, y2, y3, y4, y5, y6, y7, y8⟩ := rc_at S3.out (k := 0) (by simp)
  simp only [List.getElem_cons_zero, rW, iW, Nat.zero_mul, Nat.add_zero, List.length_cons, List.length_nil, Nat.reduceAdd] at y0 y1 y2 y3 y4 y5 y6 y7 y8
  have hrb := Lib.hid (fun (w' : World) (hb : Below w3.heap.size w3 w') => rbytes_any gW rW _ w' noM (y8.mono (Keep.below hb)) (by decide))
  unfold gv rv gW rW iW at hrb
  simp only at hrb
  have hS := Lib.hid (show (∀ i, w3.drew.cell? ⟨q, i, none⟩ = #[.int .i64 1, .int .i64 1, .int .i64 0, .int .i64 14, .int .i64 1][i]?) ∧ (w3.drew.cell? ⟨b, off, none⟩ = some (.int .i64 1) ∧ w3.drew.cell? ⟨b, off + 1, none⟩ = some (.int .i64 3) ∧ w3.drew.cell? ⟨b, off + 2, none⟩ = some (.int .i64 2) ∧ w3.drew.cell? ⟨b, off + 3, none⟩ = some (.int .i64 0) ∧ w3.drew.cell? ⟨b, off + 4, none⟩ = some (.int .i64 2) ∧
    w3.drew.cell? ⟨b, off + 5, none⟩ = some (.int .i64 0) ∧ w3.drew.cell? ⟨b, off + 6, none⟩ = some (.int .i64 (-1)) ∧ w3.drew.cell? ⟨b, off + 7, none⟩ = some (.slice Ab 8 Cb)) from ⟨HG3.out.cell, y0, y1, y2, y3, y4, y5, y6, y7⟩)
  clear y0 y1 y2 y3 y4 y5 y6 y7 y8
  go_wp2_with fail
  refine rp_enter [0, 3] (fun V => (∀ i, V.cell? ⟨q, i, none⟩ = #[.int .i64 1, .int .i64 1, .int .i64 0, .int .i64 14, .int .i64 1][i]?) ∧ (V.cell? ⟨b, off, none⟩ = some (.int .i64 1) ∧ V.cell? ⟨b, off + 1, none⟩ = some (.int .i64 3) ∧ V.cell? ⟨b, off + 2, none⟩ = some (.int .i64 2) ∧ V.cell? ⟨b, off + 3, none⟩ = some (.int .i64 0) ∧ V.cell? ⟨b, off + 4, none⟩ = some (.int .i64 2) ∧ V.cell? ⟨b, off + 5, none⟩ = some (.int .i64 0) ∧ V.cell? ⟨b, off + 6, none⟩ = some (.int .i64 (-1)) ∧ V.cell? ⟨b, off + 7, none⟩ = some (.slice Ab 8 Cb))) (by kernel_rfl) ?_
  apply rp_take 0 rfl (by kernel_rfl) (fun _ _ _ h => h) (hS.out) rfl
  · (rintro W ⟨s, s0, s1, s2, s3, s4, s5, s6, s7⟩; go_simp; try rfl)
  · (go_simp; try rfl)
  apply rp_pure 1 rfl (by kernel_rfl) (fun _ _ _ h => h) rfl
  · (intro W; go_simp; try rfl)
  · (go_simp; try rfl)
  apply rp_pure 2 rfl (by kernel_rfl) (fun _ _ _ h => h) rfl
  · (intro W; go_simp; try rfl)
  · (go_simp; try rfl)
  apply rp_take 3 rfl (by kernel_rfl) (fun _ _ _ h => h) (hS.out) rfl
  · (rintro W ⟨s, s0, s1, s2, s3, s4, s5, s6, s7⟩; go_simp; try rfl)
  · (go_simp; try rfl)
  refine rp_only 4 (by kernel_rfl) rfl (fun K hK => ?_)
  go_simp
  ((with_reducible refine (hrb.out _ (below_drew w3)).mono ?_); rintro e w4 ⟨hU, hB4⟩)
  rcases hU with ⟨-, v4, rfl, ho4⟩ | ⟨hbad, -⟩
  case inr => exact absurd wake_ok (by rw [show okR gW rW = false from hbad]; simp)
  have hlen : (recB ⟨1, 3, 2, 0, 2, ⟨0, -1, [0, 0, 0, 0, 0, 0, 0, 0]⟩⟩).length = 22 := wake_len
  obtain ⟨A4, C4, rfl⟩ := ho4.form
  rw [hlen]
  have hb34 := (below_drew w3).trans hB4
  have HB4 := Lib.hid (HB3.out.trans (hb34.mono HB3.out.size))
  have HG4 := Lib.hid (HG3.out.below hb34)
  have S4 := Lib.hid (S3.out.mono (Keep.below hb34))
  have ho4' := ho4.sl (M := noM) (fun _ _ h => h)
  rw [hlen] at ho4'
  have hrr := Lib.hid (rread_any gW (.slice A4 22 C4) (recB rW) w4 noM ho4' (by rw [wake_len]; omega))
  unfold gv gW at hrr
  simp only at hrr
  have hx := Lib.hid (And.intro (below_cell hb34 hS.out.2.1) hb34)
  refine hK _ _ ⟨fun _ _ => ⟨fun i => HG4.out.cell i, below_cell hB4 hS.out.2.1, below_cell hB4 hS.out.2.2.1, below_cell hB4 hS.out.2.2.2.1, below_cell hB4 hS.out.2.2.2.2.1, below_cell hB4 hS.out.2.2.2.2.2.1, below_cell hB4 hS.out.2.2.2.2.2.2.1, below_cell hB4 hS.out.2.2.2.2.2.2.2.1, below_cell hB4 hS.out.2.2.2.2.2.2.2.2⟩, ?_⟩; clear hK K
  clear hx hb34 hB4 ho4 ho4' hlen hrb hS
  apply rp_pure 5 rfl (by kernel_rfl) (fun _ _ _ h => h) rfl
  · (intro W; go_simp; try rfl)
  · (go_simp; try rfl)
  apply rp_pure 6 rfl (by kernel_rfl) (fun _ _ _ h => h) rfl
  · (intro W; go_simp; try rfl)
  · (go_simp; try rfl)
  apply rp_pure 7 rfl (by kernel_rfl) (fun _ _ _ h => h) rfl
  · (intro W; go_simp; try rfl)
  · (go_simp; try rfl)
  apply rp_pure 8 rfl (by kernel_rfl) (fun _ _ _ h => h) rfl
  · (intro W; go_simp; try rfl)
  · (go_simp; try rfl)
  apply rp_pure 9 rfl (by kernel_rfl) (fun _ _ _ h => h) rfl
  · (intro W; go_simp; try rfl)
  · (go_simp; try rfl)
  refine rp_done (by kernel_rfl) ?_
  obtain ⟨g1, g2, g3⟩ := HG4.out.all
  go_wp2_with fail
  clear g1 g2 g3
  ((with_reducible refine hrr.out.mono ?_); rintro e w5 ⟨hU, hB5⟩)
  have hrd : readR gW (recB rW) = some rW := readR_recB wake_ok
  rcases hU with ⟨hbad, -⟩ | ⟨-, hbad, -⟩ | ⟨-, v5, r5, hr5, rfl, ho5⟩
  · exact absurd (show okG gW = true by decide) (by rw [show okG gW = false from hbad]; simp)
  · exact absurd (show readR gW (recB rW) = none from hbad) (by rw [hrd]; simp)
  have hr5' : readR gW (recB rW) = some r5 := hr5
  rw [hrd] at hr5'
  injection hr5' with hr5'
  subst hr5'
  obtain ⟨A5, C5, rfl⟩ := ho5.form
  have HB5 := Lib.hid (HB4.out.trans (hB5.mono HB4.out.size))
  have HG5 := Lib.hid (HG4.out.below hB5)
  obtain ⟨b1, off1, Ab1, Cb1, e1, -, z0, z1, z2, z3, z4, z5, z6, z7, z8⟩ := rc_at (S4.out.mono (Keep.below hB5)) (k := 1) (by simp)
  cases e1
  simp only [List.getElem_cons_zero, List.getElem_cons_succ, Nat.one_mul] at z0 z3
  unfold rv rW iW
  simp only [List.length_cons, List.length_nil, Nat.reduceAdd]
  clear z1 z2 z4 z5 z6 z7 z8 hr5 ho5 hrd hrr
  have hbA := (Below.refl w5.heap.size w5).alloc (Nat.le_refl _) (.cells #[.int .i64 1, .int .i64 3, .int .i64 2, .int .i64 0, .int .i64 2, .int .i64 0, .int .i64 (-1), .slice A5 8 C5] 28)
  have y0 := below_cell hbA z0
  have y3 := below_cell hbA z3
  have HB6 := Lib.hid (HB5.out.trans (hbA.mono HB5.out.size))
  obtain ⟨g1, g2, g3⟩ := (HG5.out.below hbA).all
  have hck := Lib.hid (rcheck_any gW ⟨0, 1, 0, 0, 0, noImg⟩ (.slice none 0 0) (w5.alloc (.cells #[.int .i64 1, .int .i64 3, .int .i64 2, .int .i64 0, .int .i64 2, .int .i64 0, .int .i64 (-1), .slice A5 8 C5] 28)) noM (sl_nil _ _ _ (by simp [maxLen])) (by decide))
  rw [wake_bad] at hck
  unfold gv rv gW noImg errV at hck
  simp only at hck
  clear hbA hB5 z0 z3
  go_wp2_with fail
  ((with_reducible refine hck.out.mono ?_); rintro e w6 ⟨rfl, hB6⟩)
  go_wp2
  go_ret
  exact ⟨rfl, HB6.out.trans (hB6.mono HB6.out.size)⟩
end Go.Proofs.Ytpknhpfbinplgaa
