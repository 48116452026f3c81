/-
seal.Open.
-/
import Derived.Test.YtpknhpfbinplgaaRcLog
namespace Go.Proofs.Ytpknhpfbinplgaa
open Go.RowKit
attribute [local go_sem ↓] Go.wp_at_zero Go.wp_at_succ

/-- How the reading of a sector ends. -/
def openE (b : List UInt8) : Int :=
  if b.length < 11 ∨ 107 < b.length then 4
  else if leN (b.drop (b.length - 4)) ≠ sumC (b.take (b.length - 4)) then 5
  else if partOk b = true ∧ partN b = b.length - 11 then 0 else 4
def secAddr (b : List UInt8) : Int := (leN ((b.drop (b.length - 10)).take 2) : Nat)
def secStamp (b : List UInt8) : Int := (leN ((b.drop (b.length - 8)).take 4) : Nat)
def secPay (b : List UInt8) : List UInt8 := (b.drop 1).take (b.length - 11)
def OpenP (w' : World) (base : Nat) (b : List UInt8) (e : Ending) : Prop :=
  (openE b ≠ 0 ∧ e = .returned (.tuple #[.agg #[.int .i64 0, .int .i64 0, .slice none 0 0], .int .i64 (openE b)])) ∨
  (openE b = 0 ∧ ∃ v, e = .returned (.tuple #[.agg #[.int .i64 (secAddr b), .int .i64 (secStamp b), v], .int .i64 0]) ∧ OwR w' noM base 5 v (secPay b))

set_option maxRecDepth 100000 in
set_option maxHeartbeats 16000000 in
theorem open_any (v : Value) (b : List UInt8) (w : World) (Mi : Ms) (h : SlR w Mi v b) (hl : b.length ≤ 100000) :
    Calls Try.prog 31 #[v] w fun e w' => OpenP w' w.heap.size b e ∧ Below w.heap.size w w' := by
  obtain ⟨a, c, rfl⟩ := h.form
  have hcap := h.cap
  have H := Lib.hid h.bare
  have HB := Lib.hid ((Below.refl w.heap.size w).alloc (Nat.le_refl _) (.cells #[.int .i64 0, .int .i64 0, .slice none 0 0] 65))
  have HR := Lib.hid (Blk.new w 65 #[.int .i64 0, .int .i64 0, .slice none 0 0])
  clear h
  by_cases hlen : b.length < 11 ∨ 107 < b.length
  · have hE := Lib.hid (show openE b = 4 by rw [openE, if_pos hlen])
    have hx := HR.out.cell
    by_cases h1 : b.length < 11
    · have h1' : (b.length : Int) < 11 := by omega
      have hlen := Lib.hid hlen
      go_enter Try.func31, Try.ntmps31
      go_wp2
      refine bodyPost_ret (v := .tuple #[.agg #[.int .i64 0, .int .i64 0, .slice none 0 0], .int .i64 4]) (by simp [results, Try.results31, go_sem, hx]) rfl ?_
      exact ⟨.inl ⟨by rw [hE.out]; decide, by rw [hE.out]⟩, HB.out⟩
    · have h1' : ¬ (b.length : Int) < 11 := by omega
      have h2' : (107 : Int) < b.length := by omega
      have hlen := Lib.hid hlen
      go_enter Try.func31, Try.ntmps31
      go_wp2
      refine bodyPost_ret (v := .tuple #[.agg #[.int .i64 0, .int .i64 0, .slice none 0 0], .int .i64 4]) (by simp [results, Try.results31, go_sem, hx]) rfl ?_
      exact ⟨.inl ⟨by rw [hE.out]; decide, by rw [hE.out]⟩, HB.out⟩
  · have h1 : 11 ≤ b.length := by omega
    have h2 : b.length ≤ 107 := by omega
    have h1' : ¬ (b.length : Int) < 11 := by omega
    have h2' : ¬ (107 : Int) < b.length := by omega
    have hE0 := Lib.hid (show openE b = if leN (b.drop (b.length - 4)) ≠ sumC (b.take (b.length - 4)) then 5 else if partOk b = true ∧ partN b = b.length - 11 then 0 else 4 by rw [openE, if_neg hlen])
    obtain ⟨-, hc1, hc2⟩ := hcap
    obtain ⟨bb, off, rfl, -, -⟩ := u8_at H.out (show 0 < b.length by omega)
    have hw4 : IntKind.i64.wrap ((b.length : Int) - 4) = ((b.length - 4 : Nat) : Int) := by rw [IntKind.wrap_i64]; omega
    have hw11 : IntKind.i64.wrap ((b.length : Int) - 11) = ((b.length - 11 : Nat) : Int) := by rw [IntKind.wrap_i64]; omega
    have hat0 : (0 : Int) ≤ ((b.length - 4 : Nat) : Int) := by omega
    have hat1 : ((b.length - 4 : Nat) : Int) ≤ b.length := by omega
    have hat2 : ((b.length - 4 : Nat) : Int) ≤ c := by omega
    have hat3 : (b.length : Int) ≤ c := by omega
    have hne : ¬ c = b.length - 4 := by omega
    have hsd := (H.out.mono (Keep.below HB.out)).dropU (i := b.length - 4) (by omega)
    rw [if_neg hne] at hsd
    have hdl : (b.drop (b.length - 4)).length = 4 := by rw [List.length_drop]; omega
    have hge := get_any _ (b.drop (b.length - 4)) 4 (w.alloc (.cells #[.int .i64 0, .int .i64 0, .slice none 0 0] 65)) noM noM hsd (.inr (.inr rfl)) (by rw [hdl]; decide) (by rw [hdl]; omega)
    rw [show (b.drop (b.length - 4)).take (Int.toNat 4) = b.drop (b.length - 4) from List.take_of_length_le (by rw [hdl]; decide)] at hge
    have hge := Lib.hid hge
    clear hlen hsd hdl
    go_enter Try.func31, Try.ntmps31
    go_wp2_with fail
    ((with_reducible refine hge.out.mono ?_); rintro e w1 ⟨r1, rfl, ho1, hB1⟩)
    have HB1 := Lib.hid (HB.out.trans (hB1.mono HB.out.size))
    have HR1 := Lib.hid (HR.out.below hB1)
    have hsm := Lib.hid (sumOf_any (.slice (some ⟨bb, off, none⟩) (b.length - 4) c) (b.take (b.length - 4)) w1 noM ((H.out.mono (Keep.below HB1.out)).take_ (by omega)))
    obtain ⟨T1, hT1⟩ : ∃ T1, T1 = leN (b.drop (b.length - 4)) := ⟨_, rfl⟩
    obtain ⟨T2, hT2⟩ : ∃ T2, T2 = sumC (b.take (b.length - 4)) := ⟨_, rfl⟩
    rw [← hT1, ← hT2] at hE0
    rw [← hT2] at hsm
    rw [← hT1]
    clear hB1 hge ho1 hT1 hT2 HB HR
    go_wp2_with fail
    ((with_reducible refine hsm.out.mono ?_); rintro e w2 ⟨rfl, rfl⟩)
    by_cases hsum : T1 = T2
    · have hs' : ((T1 : Int) != (T2 : Int)) = false := by simp [hsum]
      have hE1 := Lib.hid (show openE b = if partOk b = true ∧ partN b = b.length - 11 then 0 else 4 by rw [hE0.out, if_neg (by simpa using hsum)])
      have hup := Lib.hid (unpart_any (.slice (some ⟨bb, off, none⟩) b.length c) b w2 noM (H.out.mono (Keep.below HB1.out)) (by omega))
      clear hsum hE0 hsm
      go_wp2_with fail
      ((with_reducible refine hup.out.mono ?_); rintro e w3 ⟨hU, hB3⟩)
      have HB3 := Lib.hid (HB1.out.trans (hB3.mono HB1.out.size))
      have HR3 := Lib.hid (HR1.out.below hB3)
      have HW2 := Lib.hid (show w.heap.size < w2.heap.size from HR1.out.lt)
      clear hB3 hup HB1 HR1
      rcases hU with ⟨hpo, v1, v2, rfl, hv1, hv2⟩ | ⟨hpo, rfl⟩
      · obtain ⟨A1, C1, rfl⟩ := hv1.form
        obtain ⟨A2, C2, rfl⟩ := hv2.form
        have hpl : ((b.drop 1).take (partN b)).length = partN b := by
          simp only [partOk, decide_eq_true_eq] at hpo
          rw [List.length_take, List.length_drop]; omega
        rw [hpl] at hv1 ⊢
        by_cases hpn : partN b = b.length - 11
        · have hE2 := Lib.hid (show openE b = 0 by rw [hE1.out, if_pos ⟨hpo, hpn⟩])
          rw [hpn] at hv1 hv2 ⊢
          have hdr : b.drop (1 + (b.length - 11)) = b.drop (b.length - 10) := by congr 1; omega
          rw [hdr] at hv2 ⊢
          have hrl : (b.drop (b.length - 10)).length = 10 := by rw [List.length_drop]; omega
          have hbl := (Below.refl w3.heap.size w3).alloc (Nat.le_refl _) (.cells #[.int .i64 2, .int .i64 4] 3)
          have hun := unrow_any _ _ (b.drop (b.length - 10)) [2, 4] _ noM noM ((hv2.below hbl).sl (M := noM) (fun _ _ h => h)) ((OwR.litI w3 noM [2, 4] (by simp)).sl (fun _ _ h => h)) (by decide) (by rw [hrl]; omega) (by simp)
          rw [hrl] at hun ⊢
          simp only [List.map_cons, List.map_nil, List.length_cons, List.length_nil, Nat.reduceAdd] at hun
          have hun := Lib.hid hun
          have HV1 := Lib.hid hv1
          have HBL := Lib.hid hbl
          have hnum : nums [2, 4] (b.drop (b.length - 10)) = [secAddr b, secStamp b] := by
            simp only [nums, secAddr, secStamp]
            rw [List.drop_drop, show b.length - 10 + Int.toNat 2 = b.length - 8 by show _ + 2 = _; omega]
            rfl
          have HN := Lib.hid hnum
          have hpe : (((b.length - 11 : Nat) : Int) != ((b.length - 11 : Nat) : Int)) = false := by simp
          clear hpo hpl hpn hdr hv1 hv2 hbl hnum hE1
          go_wp2_with fail
          ((with_reducible refine hun.out.mono ?_); rintro e w4 ⟨hU, hB4⟩)
          have hb34 := HBL.out.trans (hB4.mono HBL.out.size)
          have HB4 := Lib.hid (HB3.out.trans (hb34.mono HB3.out.size))
          have HR4 := Lib.hid (HR3.out.below hb34)
          have HV4 := Lib.hid (HV1.out.below hb34)
          rcases hU with ⟨-, v5, v6, rfl, ho5, ho6⟩ | ⟨hfew, -⟩
          case inr => exact absurd hfew (by rw [hrl]; decide)
          rw [HN.out] at ho5
          obtain ⟨x, hx0⟩ : ∃ x, x = secAddr b := ⟨_, rfl⟩
          obtain ⟨y, hy0⟩ : ∃ y, y = secStamp b := ⟨_, rfl⟩
          rw [← hx0, ← hy0] at ho5
          have HXY := Lib.hid (And.intro hx0 hy0)
          obtain ⟨B, cB, rfl, hBB, hBlt, f1, y0, y1⟩ := ho5.int2
          have hS := Lib.hid (show w4.drew.cell? ⟨B, 0, none⟩ = some (.int .i64 x) ∧ w4.drew.cell? ⟨B, 1, none⟩ = some (.int .i64 y) from ⟨y0, y1⟩)
          clear hx0 hy0 ho5 ho6 hBB hBlt f1 y0 y1 hB4 hb34 hun
          go_wp2_with fail
          refine rp_enter [2, 5] (fun W => W.cell? ⟨B, 0, none⟩ = some (.int .i64 x) ∧ W.cell? ⟨B, 1, none⟩ = some (.int .i64 y)) (by kernel_rfl) ?_
          obtain ⟨r1, r2, r3⟩ := HR4.out.all
          apply rp_pure 0 rfl (by kernel_rfl) (fun _ _ _ h => h) rfl
          · (intro W; go_simp; try rfl)
          · (go_simp; try rfl)
          apply rp_pure 1 rfl (by kernel_rfl) (fun _ _ _ h => h) rfl
          · (intro W; go_simp; try rfl)
          · (go_simp; try rfl)
          apply rp_take 2 rfl (by kernel_rfl) (fun _ _ _ h => h) (hS.out) rfl
          · (rintro W ⟨s0, s1⟩; go_simp; try rfl)
          · (go_simp; try rfl)
          apply rp_pure 3 rfl (by kernel_rfl) (fun _ _ _ h => h) rfl
          · (intro W; go_simp; try rfl)
          · (go_simp; try rfl)
          apply rp_pure 4 rfl (by kernel_rfl) (fun _ _ _ h => h) rfl
          · (intro W; go_simp; try rfl)
          · (go_simp; try rfl)
          apply rp_take 5 rfl (by kernel_rfl) (fun _ _ _ h => h) (hS.out) rfl
          · (rintro W ⟨s0, s1⟩; go_simp; try rfl)
          · (go_simp; try rfl)
          apply rp_pure 6 rfl (by kernel_rfl) (fun _ _ _ h => h) rfl
          · (intro W; go_simp; try rfl)
          · (go_simp; try rfl)
          apply rp_pure 7 rfl (by kernel_rfl) (fun _ _ _ h => h) rfl
          · (intro W; go_simp; try rfl)
          · (go_simp; try rfl)
          refine rp_free 8 (by kernel_rfl) (by kernel_rfl) rfl (fun K hK => ?_)
          go_simp
          refine hK _ _ ?_; clear hK K
          apply rp_pure 9 rfl (by kernel_rfl) (fun _ _ _ h => h) rfl
          · (intro W; go_simp; try rfl)
          · (go_simp; try rfl)
          refine rp_done (by kernel_rfl) ?_
          clear r1 r2 r3 hS
          have hx := st3_cells HR4.out (.int .i64 x) (.int .i64 y) (.slice A1 (b.length - 11) C1)
          have HBf := Lib.hid ((((HB4.out.setCell (p := ⟨w.heap.size, 0, none⟩) (Nat.le_refl _) (.int .i64 x)).setCell (p := ⟨w.heap.size, 1, none⟩) (Nat.le_refl _) (.int .i64 y)).setCell (p := ⟨w.heap.size, 2, none⟩) (Nat.le_refl _) (.slice A1 (b.length - 11) C1)).drew)
          have hnv : (Value.slice A1 (b.length - 11) C1).ownBlock ≠ some w.heap.size := fun e => by have := HV4.out.own_ge e; have := HW2.out; omega
          have HVf := Lib.hid ((((HV4.out.setP plU (p := ⟨w.heap.size, 0, none⟩) hnv (.int .i64 x)).setP plU (p := ⟨w.heap.size, 1, none⟩) hnv (.int .i64 y)).setP plU (p := ⟨w.heap.size, 2, none⟩) hnv (.slice A1 (b.length - 11) C1)).drew)
          clear hnv
          go_wp2
          refine bodyPost_ret (v := .tuple #[.agg #[.int .i64 x, .int .i64 y, .slice A1 (b.length - 11) C1], .int .i64 0]) (by simp [results, Try.results31, go_sem, hx]) rfl ?_
          refine ⟨.inr ⟨hE2.out, _, ?_, HVf.out.mono_base (Nat.le_of_lt HW2.out)⟩, HBf.out⟩
          rw [HXY.out.1, HXY.out.2]
        · have hE2 := Lib.hid (show openE b = 4 by rw [hE1.out, if_neg (fun h => hpn h.2)])
          have hpe : (((partN b : Nat) : Int) != ((b.length - 11 : Nat) : Int)) = true := by simp only [bne_iff_ne, ne_eq]; omega
          obtain ⟨r1, r2, r3⟩ := HR3.out.all
          have hx := st3_cells HR3.out (.int .i64 0) (.int .i64 0) (.slice none 0 0)
          have HBf := Lib.hid (((HB3.out.setCell (p := ⟨w.heap.size, 0, none⟩) (Nat.le_refl _) (.int .i64 0)).setCell (p := ⟨w.heap.size, 1, none⟩) (Nat.le_refl _) (.int .i64 0)).setCell (p := ⟨w.heap.size, 2, none⟩) (Nat.le_refl _) (.slice none 0 0))
          clear hpo hpl hpn hv1 hv2 hE1
          go_wp2
          refine bodyPost_ret (v := .tuple #[.agg #[.int .i64 0, .int .i64 0, .slice none 0 0], .int .i64 4]) (by simp [results, Try.results31, go_sem, hx]) rfl ?_
          exact ⟨.inl ⟨by rw [hE2.out]; decide, by rw [hE2.out]⟩, HBf.out⟩
      · have hE2 := Lib.hid (show openE b = 4 by rw [hE1.out, if_neg (fun h => by rw [hpo] at h; cases h.1)])
        obtain ⟨r1, r2, r3⟩ := HR3.out.all
        have hx := st3_cells HR3.out (.int .i64 0) (.int .i64 0) (.slice none 0 0)
        have HBf := Lib.hid (((HB3.out.setCell (p := ⟨w.heap.size, 0, none⟩) (Nat.le_refl _) (.int .i64 0)).setCell (p := ⟨w.heap.size, 1, none⟩) (Nat.le_refl _) (.int .i64 0)).setCell (p := ⟨w.heap.size, 2, none⟩) (Nat.le_refl _) (.slice none 0 0))
        clear hpo hE1
        go_wp2
        refine bodyPost_ret (v := .tuple #[.agg #[.int .i64 0, .int .i64 0, .slice none 0 0], .int .i64 4]) (by simp [results, Try.results31, go_sem, hx]) rfl ?_
        exact ⟨.inl ⟨by rw [hE2.out]; decide, by rw [hE2.out]⟩, HBf.out⟩
    · have hs' : ((T1 : Int) != (T2 : Int)) = true := by simp only [bne_iff_ne, ne_eq]; omega
      have hE1 := Lib.hid (show openE b = 5 by rw [hE0.out, if_pos (by simpa using hsum)])
      obtain ⟨r1, r2, r3⟩ := HR1.out.all
      have hx := st3_cells HR1.out (.int .i64 0) (.int .i64 0) (.slice none 0 0)
      have HBf := Lib.hid (((HB1.out.setCell (p := ⟨w.heap.size, 0, none⟩) (Nat.le_refl _) (.int .i64 0)).setCell (p := ⟨w.heap.size, 1, none⟩) (Nat.le_refl _) (.int .i64 0)).setCell (p := ⟨w.heap.size, 2, none⟩) (Nat.le_refl _) (.slice none 0 0))
      clear hsum hE0 hsm
      go_wp2
      refine bodyPost_ret (v := .tuple #[.agg #[.int .i64 0, .int .i64 0, .slice none 0 0], .int .i64 5]) (by simp [results, Try.results31, go_sem, hx]) rfl ?_
      exact ⟨.inl ⟨by rw [hE1.out]; decide, by rw [hE1.out]⟩, HBf.out⟩
end Go.Proofs.Ytpknhpfbinplgaa
