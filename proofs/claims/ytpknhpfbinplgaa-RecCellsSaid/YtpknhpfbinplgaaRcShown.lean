/-
Package rec: an image read; a record's bytes, whatever record.
-/
import Derived.Test.YtpknhpfbinplgaaRcRbytes
namespace Go.Proofs.Ytpknhpfbinplgaa
open Go.RowKit
attribute [local go_sem ↓] Go.wp_at_zero Go.wp_at_succ

theorem rbytes_any (g : Geo) (r : Rc) (v : Value) (w : World) (Mi : Ms) (h : SlR w Mi v r.img.bytes) (hl : r.img.bytes.length ≤ 100000) :
    Calls Try.prog 9 #[gv g, rv r v] w fun e w' => RbytesP w' w.heap.size g r e ∧ Below w.heap.size w w' := by
  cases hok : okR g r with
  | false => exact rbytes_no g r v w Mi h hl hok
  | true =>
    rcases (okR_parts hok).2 with hk | hk | hk
    · exact rbytes_0 g r v w Mi h hl hok hk.1
    · exact rbytes_1 g r v w Mi h hl hok hk.1
    · exact rbytes_2 g r v w Mi h hl hok hk.1

def whatN (n : Int) : Int := if n = 254 then -1 else n
def shownOk (b : List UInt8) : Bool := decide (2 ≤ b.length) && partOk (b.drop 2)
/-- The image that bytes are. -/
def imgOf (b : List UInt8) : Img := ⟨(nums [1, 1] b).getD 0 0, whatN ((nums [1, 1] b).getD 1 0), ((b.drop 2).drop 1).take (partN (b.drop 2))⟩
def ShownP (w' : World) (base : Nat) (b : List UInt8) (e : Ending) : Prop :=
  (shownOk b = true ∧ ∃ v, e = .returned (.tuple #[.agg #[.int .i64 (imgOf b).zone, .int .i64 (imgOf b).what, v], .int .i64 0]) ∧ OwR w' noM base 5 v (imgOf b).bytes) ∨
  (shownOk b = false ∧ ∃ x y, e = .returned (.tuple #[.agg #[.int .i64 x, .int .i64 y, .slice none 0 0], .int .i64 4]))
theorem st3_cells {w : World} {b : Nat} {t : TypeId} {a0 a1 a2 : Value} (h : Blk w b t #[a0, a1, a2]) (x y z : Value) (i : Nat) : (((w.setCell ⟨b, 0, none⟩ x).setCell ⟨b, 1, none⟩ y).setCell ⟨b, 2, none⟩ z).cell? ⟨b, i, none⟩ = #[x, y, z][i]? :=
  (((h.set_ 0 x).set_ 1 y).set_ 2 z).cell i
theorem OwR.int2 {w : World} {M : Ms} {base : Nat} {e : TypeId} {v : Value} {x y : Int} (h : OwR w M base e v [x, y]) : ∃ B c, v = .slice (some ⟨B, 0, none⟩) 2 c ∧ base ≤ B ∧ B < w.heap.size ∧ (∀ i, w.frozen? ⟨B, i, none⟩ = false) ∧ w.cell? ⟨B, 0, none⟩ = some (.int .i64 x) ∧ w.cell? ⟨B, 1, none⟩ = some (.int .i64 y) := by
  obtain ⟨B, c, cs, rfl, hb, -, hf, he, hc⟩ := h.at_ (k := 0) (by simp)
  obtain ⟨B1, c1, cs1, e1, -, -, -, he1, hc1⟩ := h.at_ (k := 1) (by simp)
  cases e1
  have he : cs = [.int .i64 x] := he
  have he1 : cs1 = [.int .i64 y] := he1
  subst he he1
  exact ⟨B, c, rfl, hb, World.block_lt_of_cell? _ _ (hc 0 _ rfl), hf, hc 0 _ rfl, hc1 0 _ rfl⟩

set_option maxRecDepth 100000 in
set_option maxHeartbeats 16000000 in
theorem shown_any (v : Value) (b : List UInt8) (w : World) (Mi : Ms) (h : SlR w Mi v b) (hl : b.length ≤ 100000) :
    Calls Try.prog 39 #[v] w fun e w' => ShownP w' w.heap.size b e ∧ Below w.heap.size w w' := by
  obtain ⟨a, c, rfl⟩ := h.form
  have hb1 := (Below.refl w.heap.size w).alloc (Nat.le_refl _) (.cells #[.int .i64 0, .int .i64 0, .slice none 0 0] 26)
  have hb2 := hb1.alloc (by simp) (.cells #[.int .i64 1, .int .i64 1] 3)
  have hR := (Blk.new w 26 #[.int .i64 0, .int .i64 0, .slice none 0 0]).alloc (.cells #[.int .i64 1, .int .i64 1] 3)
  have hs2 := (OwR.litI (w.alloc (.cells #[.int .i64 0, .int .i64 0, .slice none 0 0] 26)) noM [1, 1] (by simp)).sl (M := noM) (fun _ _ h => h)
  have hun := Lib.hid (unrow_any _ _ b [1, 1] _ noM noM (h.bare.mono (Keep.below hb2)) hs2 (by decide) (by omega) (by simp))
  simp only [List.map_cons, List.map_nil, List.length_cons, List.length_nil, Nat.reduceAdd, World.size_alloc] at hun
  have HB := Lib.hid hb2
  have HR := Lib.hid hR
  clear hb1 hb2 hR hs2 h
  go_enter Try.func39, Try.ntmps39
  go_wp2_with fail
  ((with_reducible refine hun.out.mono ?_); rintro e w1 ⟨hU, hB1⟩)
  have hB1 : Below ((w.alloc (.cells #[.int .i64 0, .int .i64 0, .slice none 0 0] 26)).alloc (.cells #[.int .i64 1, .int .i64 1] 3)).heap.size ((w.alloc (.cells #[.int .i64 0, .int .i64 0, .slice none 0 0] 26)).alloc (.cells #[.int .i64 1, .int .i64 1] 3)) w1 := by simpa using hB1
  have HB1 := Lib.hid (HB.out.trans (hB1.mono HB.out.size))
  have HR1 := Lib.hid (HR.out.below hB1)
  clear hB1 hun
  rcases hU with ⟨hfit, v1, v2, rfl, ho1, ho2⟩ | ⟨hfew, rfl⟩
  · have hT : tot [1, 1] = 2 := rfl
    rw [hT] at hfit ho2
    obtain ⟨a2, c2, rfl⟩ := ho2.form
    have hpt := Lib.hid (unpart_any _ (b.drop 2) w1 noM (ho2.sl (fun _ _ h => h)) (by rw [List.length_drop]; omega))
    obtain ⟨x, y, hxy⟩ : ∃ x y, nums [1, 1] b = [x, y] := ⟨_, _, rfl⟩
    rw [hxy] at ho1
    have HXY := Lib.hid hxy
    have HF := Lib.hid hfit
    obtain ⟨B, cB, rfl, hBB, hBlt, f1, y0, y1⟩ := ho1.int2
    have HBB := Lib.hid (show w.heap.size < B ∧ B < w1.heap.size ∧ w.heap.size < w1.heap.size from ⟨by omega, hBlt, by omega⟩)
    obtain ⟨R, hR⟩ : ∃ R, R = b.drop 2 := ⟨_, rfl⟩
    rw [← hR] at hpt
    have HRb := Lib.hid hR
    rw [← hR]
    clear hxy hfit ho1 ho2 hT hBB hBlt hR
    go_wp2_with fail
    ((with_reducible refine hpt.out.mono ?_); rintro e w2 ⟨hP, hB2⟩)
    have HB2 := Lib.hid (HB1.out.trans (hB2.mono HB1.out.size))
    have HR2 := Lib.hid (HR1.out.below hB2)
    have Z0 := Lib.hid (below_cell hB2 y0)
    have Z1 := Lib.hid (below_cell hB2 y1)
    have F2 := Lib.hid (fun i => (bcell hB2).2 B i HBB.out.2.1 |>.trans (f1 i))
    have HLT := Lib.hid (show B < w2.heap.size from Nat.lt_of_lt_of_le HBB.out.2.1 hB2.size)
    have hBB1 := HBB.out.1
    have hBB2 := HBB.out.2.1
    clear hB2 hpt y0 y1 f1
    rcases hP with ⟨hpo, v3, v4, rfl, hv3, -⟩ | ⟨hpo, rfl⟩
    · have hIb : (R.drop 1).take (partN R) = (imgOf b).bytes := by rw [HRb.out]; rfl
      rw [hIb] at hv3
      have HPO := Lib.hid hpo
      clear hIb hpo
      obtain ⟨a3, c3, rfl⟩ := hv3.form
      by_cases hy : y = 254
      · subst hy
        have hy' : ((254 : Int) == 254) = true := rfl
        obtain ⟨q1, q2⟩ : w2.cell? ⟨B, 0, none⟩ = some (.int .i64 x) ∧ w2.cell? ⟨B, 1, none⟩ = some (.int .i64 254) := ⟨Z0.out, Z1.out⟩
        have f3 := F2.out
        have hBlt2 := HLT.out
        have hS := Lib.hid (show (w2.setCell ⟨B, 1, none⟩ (.int .i64 (-1))).drew.cell? ⟨B, 0, none⟩ = some (.int .i64 x) ∧ (w2.setCell ⟨B, 1, none⟩ (.int .i64 (-1))).drew.cell? ⟨B, 1, none⟩ = some (.int .i64 (-1)) from ⟨by exact (World.cell?_setCell_other w2 ⟨B, 1, none⟩ ⟨B, 0, none⟩ (.int .i64 (-1)) (by simp)).trans q1, World.cell?_setCell_same w2 _ (.int .i64 (-1)) q2⟩)
        have HR4 := Lib.hid (HR2.out.far (p := ⟨B, 1, none⟩) (by simp; omega) (.int .i64 (-1)))
        have HB4 := Lib.hid (HB2.out.setCell (p := ⟨B, 1, none⟩) (by simp; omega) (.int .i64 (-1)))
        have HV4 := Lib.hid (And.intro ((hv3.setP plU (p := ⟨B, 1, none⟩) (fun e => by have := hv3.own_ge e; simp at this; omega) (.int .i64 (-1)))) (show (Value.slice a3 (imgOf b).bytes.length c3).ownBlock ≠ some w.heap.size from fun e => by have := hv3.own_ge e; have := HBB.out; omega))
        clear hv3
        go_wp2_with fail
        clear q1 q2
        refine rp_enter [2, 5] (fun W => W.cell? ⟨B, 0, none⟩ = some (.int .i64 x) ∧ W.cell? ⟨B, 1, none⟩ = some (.int .i64 (-1))) (by kernel_rfl) ?_
        obtain ⟨r1, r2, r3⟩ := HR2.out.all
        apply rp_pure 0 rfl (by kernel_rfl) (fun _ _ _ h => h) rfl
        · (intro W; go_simp; try rfl)
        · (go_simp; try rfl)
        apply rp_pure 1 rfl (by kernel_rfl) (fun _ _ _ h => h) rfl
        · (intro W; go_simp; try rfl)
        · (go_simp; try rfl)
        apply rp_take 2 rfl (by kernel_rfl) (fun _ _ _ h => h) (hS.out) rfl
        · (rintro W ⟨s0, s1⟩; go_simp; try rfl)
        · (go_simp; try rfl)
        apply rp_pure 3 rfl (by kernel_rfl) (fun _ _ _ h => h) rfl
        · (intro W; go_simp; try rfl)
        · (go_simp; try rfl)
        apply rp_pure 4 rfl (by kernel_rfl) (fun _ _ _ h => h) rfl
        · (intro W; go_simp; try rfl)
        · (go_simp; try rfl)
        apply rp_take 5 rfl (by kernel_rfl) (fun _ _ _ h => h) (hS.out) rfl
        · (rintro W ⟨s0, s1⟩; go_simp; try rfl)
        · (go_simp; try rfl)
        apply rp_pure 6 rfl (by kernel_rfl) (fun _ _ _ h => h) rfl
        · (intro W; go_simp; try rfl)
        · (go_simp; try rfl)
        apply rp_pure 7 rfl (by kernel_rfl) (fun _ _ _ h => h) rfl
        · (intro W; go_simp; try rfl)
        · (go_simp; try rfl)
        apply rp_pure 8 rfl (by kernel_rfl) (fun _ _ _ h => h) rfl
        · (intro W; go_simp; try rfl)
        · (go_simp; try rfl)
        refine rp_free 9 (by kernel_rfl) (by kernel_rfl) rfl (fun K hK => ?_)
        go_simp
        refine hK _ _ ?_; clear hK K
        apply rp_pure 10 rfl (by kernel_rfl) (fun _ _ _ h => h) rfl
        · (intro W; go_simp; try rfl)
        · (go_simp; try rfl)
        refine rp_done (by kernel_rfl) ?_
        clear r1 r2 r3
        have hx := st3_cells HR4.out (.int .i64 x) (.int .i64 (-1)) (.slice a3 (imgOf b).bytes.length c3)
        have HBf := Lib.hid ((((HB4.out.setCell (p := ⟨w.heap.size, 0, none⟩) (Nat.le_refl _) (.int .i64 x)).setCell (p := ⟨w.heap.size, 1, none⟩) (Nat.le_refl _) (.int .i64 (-1))).setCell (p := ⟨w.heap.size, 2, none⟩) (Nat.le_refl _) (.slice a3 (imgOf b).bytes.length c3)).drew)
        have HVf := Lib.hid ((((HV4.out.1.setP plU (p := ⟨w.heap.size, 0, none⟩) HV4.out.2 (.int .i64 x)).setP plU (p := ⟨w.heap.size, 1, none⟩) HV4.out.2 (.int .i64 (-1))).setP plU (p := ⟨w.heap.size, 2, none⟩) HV4.out.2 (.slice a3 (imgOf b).bytes.length c3)).drew)
        have hi1 := Lib.hid (show (imgOf b).zone = x ∧ (imgOf b).what = (-1) by simp [imgOf, HXY.out, whatN])
        have hSO := Lib.hid (show shownOk b = true by have h1 := HF.out; have h2 := HPO.out; rw [HRb.out] at h2; simp [shownOk, h1, h2])
        go_wp2
        refine bodyPost_ret (v := .tuple #[.agg #[.int .i64 x, .int .i64 (-1), .slice a3 (imgOf b).bytes.length c3], .int .i64 0]) (by simp [results, Try.results39, go_sem, hx]) rfl ?_
        refine ⟨.inl ⟨hSO.out, _, ?_, HVf.out.mono_base (Nat.le_of_lt HBB.out.2.2)⟩, HBf.out⟩
        rw [hi1.out.1, hi1.out.2]
      · skip
        have hne := Lib.hid hy
        have hy' : (y == 254) = false := by simpa using hy
        obtain ⟨q1, q2⟩ : w2.cell? ⟨B, 0, none⟩ = some (.int .i64 x) ∧ w2.cell? ⟨B, 1, none⟩ = some (.int .i64 y) := ⟨Z0.out, Z1.out⟩
        have hS := Lib.hid (show w2.drew.cell? ⟨B, 0, none⟩ = some (.int .i64 x) ∧ w2.drew.cell? ⟨B, 1, none⟩ = some (.int .i64 y) from ⟨q1, q2⟩)
        have HR4 := Lib.hid HR2.out
        have HB4 := Lib.hid HB2.out
        clear hy
        have HV4 := Lib.hid (And.intro hv3 (show (Value.slice a3 (imgOf b).bytes.length c3).ownBlock ≠ some w.heap.size from fun e => by have := hv3.own_ge e; have := HBB.out; omega))
        clear hv3
        go_wp2_with fail
        clear q1 q2
        refine rp_enter [2, 5] (fun W => W.cell? ⟨B, 0, none⟩ = some (.int .i64 x) ∧ W.cell? ⟨B, 1, none⟩ = some (.int .i64 y)) (by kernel_rfl) ?_
        obtain ⟨r1, r2, r3⟩ := HR2.out.all
        apply rp_pure 0 rfl (by kernel_rfl) (fun _ _ _ h => h) rfl
        · (intro W; go_simp; try rfl)
        · (go_simp; try rfl)
        apply rp_pure 1 rfl (by kernel_rfl) (fun _ _ _ h => h) rfl
        · (intro W; go_simp; try rfl)
        · (go_simp; try rfl)
        apply rp_take 2 rfl (by kernel_rfl) (fun _ _ _ h => h) (hS.out) rfl
        · (rintro W ⟨s0, s1⟩; go_simp; try rfl)
        · (go_simp; try rfl)
        apply rp_pure 3 rfl (by kernel_rfl) (fun _ _ _ h => h) rfl
        · (intro W; go_simp; try rfl)
        · (go_simp; try rfl)
        apply rp_pure 4 rfl (by kernel_rfl) (fun _ _ _ h => h) rfl
        · (intro W; go_simp; try rfl)
        · (go_simp; try rfl)
        apply rp_take 5 rfl (by kernel_rfl) (fun _ _ _ h => h) (hS.out) rfl
        · (rintro W ⟨s0, s1⟩; go_simp; try rfl)
        · (go_simp; try rfl)
        apply rp_pure 6 rfl (by kernel_rfl) (fun _ _ _ h => h) rfl
        · (intro W; go_simp; try rfl)
        · (go_simp; try rfl)
        apply rp_pure 7 rfl (by kernel_rfl) (fun _ _ _ h => h) rfl
        · (intro W; go_simp; try rfl)
        · (go_simp; try rfl)
        apply rp_pure 8 rfl (by kernel_rfl) (fun _ _ _ h => h) rfl
        · (intro W; go_simp; try rfl)
        · (go_simp; try rfl)
        refine rp_free 9 (by kernel_rfl) (by kernel_rfl) rfl (fun K hK => ?_)
        go_simp
        refine hK _ _ ?_; clear hK K
        apply rp_pure 10 rfl (by kernel_rfl) (fun _ _ _ h => h) rfl
        · (intro W; go_simp; try rfl)
        · (go_simp; try rfl)
        refine rp_done (by kernel_rfl) ?_
        clear r1 r2 r3
        have hx := st3_cells HR4.out (.int .i64 x) (.int .i64 y) (.slice a3 (imgOf b).bytes.length c3)
        have HBf := Lib.hid ((((HB4.out.setCell (p := ⟨w.heap.size, 0, none⟩) (Nat.le_refl _) (.int .i64 x)).setCell (p := ⟨w.heap.size, 1, none⟩) (Nat.le_refl _) (.int .i64 y)).setCell (p := ⟨w.heap.size, 2, none⟩) (Nat.le_refl _) (.slice a3 (imgOf b).bytes.length c3)).drew)
        have HVf := Lib.hid ((((HV4.out.1.setP plU (p := ⟨w.heap.size, 0, none⟩) HV4.out.2 (.int .i64 x)).setP plU (p := ⟨w.heap.size, 1, none⟩) HV4.out.2 (.int .i64 y)).setP plU (p := ⟨w.heap.size, 2, none⟩) HV4.out.2 (.slice a3 (imgOf b).bytes.length c3)).drew)
        have hi1 := Lib.hid (show (imgOf b).zone = x ∧ (imgOf b).what = y by simp [imgOf, HXY.out, whatN, hne.out])
        have hSO := Lib.hid (show shownOk b = true by have h1 := HF.out; have h2 := HPO.out; rw [HRb.out] at h2; simp [shownOk, h1, h2])
        go_wp2
        refine bodyPost_ret (v := .tuple #[.agg #[.int .i64 x, .int .i64 y, .slice a3 (imgOf b).bytes.length c3], .int .i64 0]) (by simp [results, Try.results39, go_sem, hx]) rfl ?_
        refine ⟨.inl ⟨hSO.out, _, ?_, HVf.out.mono_base (Nat.le_of_lt HBB.out.2.2)⟩, HBf.out⟩
        rw [hi1.out.1, hi1.out.2]
    · have HPO := Lib.hid hpo
      clear hpo
      by_cases hy : y = 254
      · subst hy
        have hy' : ((254 : Int) == 254) = true := rfl
        obtain ⟨q1, q2⟩ : w2.cell? ⟨B, 0, none⟩ = some (.int .i64 x) ∧ w2.cell? ⟨B, 1, none⟩ = some (.int .i64 254) := ⟨Z0.out, Z1.out⟩
        have f3 := F2.out
        have hBlt2 := HLT.out
        have hS := Lib.hid (show (w2.setCell ⟨B, 1, none⟩ (.int .i64 (-1))).drew.cell? ⟨B, 0, none⟩ = some (.int .i64 x) ∧ (w2.setCell ⟨B, 1, none⟩ (.int .i64 (-1))).drew.cell? ⟨B, 1, none⟩ = some (.int .i64 (-1)) from ⟨by exact (World.cell?_setCell_other w2 ⟨B, 1, none⟩ ⟨B, 0, none⟩ (.int .i64 (-1)) (by simp)).trans q1, World.cell?_setCell_same w2 _ (.int .i64 (-1)) q2⟩)
        have HR4 := Lib.hid (HR2.out.far (p := ⟨B, 1, none⟩) (by simp; omega) (.int .i64 (-1)))
        have HB4 := Lib.hid (HB2.out.setCell (p := ⟨B, 1, none⟩) (by simp; omega) (.int .i64 (-1)))
        go_wp2_with fail
        clear q1 q2
        refine rp_enter [2, 5] (fun W => W.cell? ⟨B, 0, none⟩ = some (.int .i64 x) ∧ W.cell? ⟨B, 1, none⟩ = some (.int .i64 (-1))) (by kernel_rfl) ?_
        obtain ⟨r1, r2, r3⟩ := HR2.out.all
        apply rp_pure 0 rfl (by kernel_rfl) (fun _ _ _ h => h) rfl
        · (intro W; go_simp; try rfl)
        · (go_simp; try rfl)
        apply rp_pure 1 rfl (by kernel_rfl) (fun _ _ _ h => h) rfl
        · (intro W; go_simp; try rfl)
        · (go_simp; try rfl)
        apply rp_take 2 rfl (by kernel_rfl) (fun _ _ _ h => h) (hS.out) rfl
        · (rintro W ⟨s0, s1⟩; go_simp; try rfl)
        · (go_simp; try rfl)
        apply rp_pure 3 rfl (by kernel_rfl) (fun _ _ _ h => h) rfl
        · (intro W; go_simp; try rfl)
        · (go_simp; try rfl)
        apply rp_pure 4 rfl (by kernel_rfl) (fun _ _ _ h => h) rfl
        · (intro W; go_simp; try rfl)
        · (go_simp; try rfl)
        apply rp_take 5 rfl (by kernel_rfl) (fun _ _ _ h => h) (hS.out) rfl
        · (rintro W ⟨s0, s1⟩; go_simp; try rfl)
        · (go_simp; try rfl)
        apply rp_pure 6 rfl (by kernel_rfl) (fun _ _ _ h => h) rfl
        · (intro W; go_simp; try rfl)
        · (go_simp; try rfl)
        apply rp_pure 7 rfl (by kernel_rfl) (fun _ _ _ h => h) rfl
        · (intro W; go_simp; try rfl)
        · (go_simp; try rfl)
        apply rp_pure 8 rfl (by kernel_rfl) (fun _ _ _ h => h) rfl
        · (intro W; go_simp; try rfl)
        · (go_simp; try rfl)
        refine rp_free 9 (by kernel_rfl) (by kernel_rfl) rfl (fun K hK => ?_)
        go_simp
        refine hK _ _ ?_; clear hK K
        apply rp_pure 10 rfl (by kernel_rfl) (fun _ _ _ h => h) rfl
        · (intro W; go_simp; try rfl)
        · (go_simp; try rfl)
        refine rp_done (by kernel_rfl) ?_
        clear r1 r2 r3
        have hx := st3_cells HR4.out (.int .i64 x) (.int .i64 (-1)) (.slice none 0 0)
        have HBf := Lib.hid ((((HB4.out.setCell (p := ⟨w.heap.size, 0, none⟩) (Nat.le_refl _) (.int .i64 x)).setCell (p := ⟨w.heap.size, 1, none⟩) (Nat.le_refl _) (.int .i64 (-1))).setCell (p := ⟨w.heap.size, 2, none⟩) (Nat.le_refl _) (.slice none 0 0)).drew)
        have hSO := Lib.hid (show shownOk b = false by have h2 := HPO.out; rw [HRb.out] at h2; simp [shownOk, h2])
        go_wp2
        refine bodyPost_ret (v := .tuple #[.agg #[.int .i64 x, .int .i64 (-1), .slice none 0 0], .int .i64 4]) (by simp [results, Try.results39, go_sem, hx]) rfl ?_
        exact ⟨.inr ⟨hSO.out, _, _, rfl⟩, HBf.out⟩
      · skip
        have hne := Lib.hid hy
        have hy' : (y == 254) = false := by simpa using hy
        obtain ⟨q1, q2⟩ : w2.cell? ⟨B, 0, none⟩ = some (.int .i64 x) ∧ w2.cell? ⟨B, 1, none⟩ = some (.int .i64 y) := ⟨Z0.out, Z1.out⟩
        have hS := Lib.hid (show w2.drew.cell? ⟨B, 0, none⟩ = some (.int .i64 x) ∧ w2.drew.cell? ⟨B, 1, none⟩ = some (.int .i64 y) from ⟨q1, q2⟩)
        have HR4 := Lib.hid HR2.out
        have HB4 := Lib.hid HB2.out
        clear hy
        go_wp2_with fail
        clear q1 q2
        refine rp_enter [2, 5] (fun W => W.cell? ⟨B, 0, none⟩ = some (.int .i64 x) ∧ W.cell? ⟨B, 1, none⟩ = some (.int .i64 y)) (by kernel_rfl) ?_
        obtain ⟨r1, r2, r3⟩ := HR2.out.all
        apply rp_pure 0 rfl (by kernel_rfl) (fun _ _ _ h => h) rfl
        · (intro W; go_simp; try rfl)
        · (go_simp; try rfl)
        apply rp_pure 1 rfl (by kernel_rfl) (fun _ _ _ h => h) rfl
        · (intro W; go_simp; try rfl)
        · (go_simp; try rfl)
        apply rp_take 2 rfl (by kernel_rfl) (fun _ _ _ h => h) (hS.out) rfl
        · (rintro W ⟨s0, s1⟩; go_simp; try rfl)
        · (go_simp; try rfl)
        apply rp_pure 3 rfl (by kernel_rfl) (fun _ _ _ h => h) rfl
        · (intro W; go_simp; try rfl)
        · (go_simp; try rfl)
        apply rp_pure 4 rfl (by kernel_rfl) (fun _ _ _ h => h) rfl
        · (intro W; go_simp; try rfl)
        · (go_simp; try rfl)
        apply rp_take 5 rfl (by kernel_rfl) (fun _ _ _ h => h) (hS.out) rfl
        · (rintro W ⟨s0, s1⟩; go_simp; try rfl)
        · (go_simp; try rfl)
        apply rp_pure 6 rfl (by kernel_rfl) (fun _ _ _ h => h) rfl
        · (intro W; go_simp; try rfl)
        · (go_simp; try rfl)
        apply rp_pure 7 rfl (by kernel_rfl) (fun _ _ _ h => h) rfl
        · (intro W; go_simp; try rfl)
        · (go_simp; try rfl)
        apply rp_pure 8 rfl (by kernel_rfl) (fun _ _ _ h => h) rfl
        · (intro W; go_simp; try rfl)
        · (go_simp; try rfl)
        refine rp_free 9 (by kernel_rfl) (by kernel_rfl) rfl (fun K hK => ?_)
        go_simp
        refine hK _ _ ?_; clear hK K
        apply rp_pure 10 rfl (by kernel_rfl) (fun _ _ _ h => h) rfl
        · (intro W; go_simp; try rfl)
        · (go_simp; try rfl)
        refine rp_done (by kernel_rfl) ?_
        clear r1 r2 r3
        have hx := st3_cells HR4.out (.int .i64 x) (.int .i64 y) (.slice none 0 0)
        have HBf := Lib.hid ((((HB4.out.setCell (p := ⟨w.heap.size, 0, none⟩) (Nat.le_refl _) (.int .i64 x)).setCell (p := ⟨w.heap.size, 1, none⟩) (Nat.le_refl _) (.int .i64 y)).setCell (p := ⟨w.heap.size, 2, none⟩) (Nat.le_refl _) (.slice none 0 0)).drew)
        have hSO := Lib.hid (show shownOk b = false by have h2 := HPO.out; rw [HRb.out] at h2; simp [shownOk, h2])
        go_wp2
        refine bodyPost_ret (v := .tuple #[.agg #[.int .i64 x, .int .i64 y, .slice none 0 0], .int .i64 4]) (by simp [results, Try.results39, go_sem, hx]) rfl ?_
        exact ⟨.inr ⟨hSO.out, _, _, rfl⟩, HBf.out⟩
  · obtain ⟨r1, r2, r3⟩ := HR1.out.all
    have hx := st3_cells HR1.out (.int .i64 0) (.int .i64 0) (.slice none 0 0)
    have HBf := Lib.hid (((HB1.out.setCell (p := ⟨w.heap.size, 0, none⟩) (Nat.le_refl _) (.int .i64 0)).setCell (p := ⟨w.heap.size, 1, none⟩) (Nat.le_refl _) (.int .i64 0)).setCell (p := ⟨w.heap.size, 2, none⟩) (Nat.le_refl _) (.slice none 0 0))
    have hN := Lib.hid (show shownOk b = false by
      have : tot [1, 1] = 2 := rfl
      simp [shownOk]; omega)
    clear hfew
    go_wp2
    refine bodyPost_ret (v := .tuple #[.agg #[.int .i64 0, .int .i64 0, .slice none 0 0], .int .i64 4]) (by simp [results, Try.results39, go_sem, hx]) rfl ?_
    exact ⟨.inr ⟨hN.out, 0, 0, rfl⟩, HBf.out⟩
end Go.Proofs.Ytpknhpfbinplgaa
