/-
casematekeep.Bytes, Image, Rec; casematelaw07.Some.
-/
import Derived.Test.YtpknhpfbinplgaaRcRread
namespace Go.Proofs.Ytpknhpfbinplgaa
open Go.RowKit
attribute [local go_sem ↓] Go.wp_at_zero Go.wp_at_succ

theorem take_ext {α : Type} {a b : List α} {k : Nat} (h : a.take k = b.take k) (ha : k < a.length) (hb : k < b.length) (he : a[k] = b[k]) : a.take (k + 1) = b.take (k + 1) := by
  rw [List.take_add_one, List.take_add_one, h, List.getElem?_eq_getElem ha, List.getElem?_eq_getElem hb, he]

set_option maxHeartbeats 1000000 in
theorem bytes_any (v1 v2 : Value) (l1 l2 : List UInt8) (w : World) (M1 M2 : Ms) (h1 : SlR w M1 v1 l1) (h2 : SlR w M2 v2 l2) (hl : l1.length ≤ 1000000000) :
    Calls Try.prog 13 #[v1, v2] w fun e w' => e = .returned (.bool (decide (l1 = l2))) ∧ Below w.heap.size w w' := by
  obtain ⟨a1, c1, rfl⟩ := h1.form
  obtain ⟨a2, c2, rfl⟩ := h2.form
  by_cases hlen : l1.length = l2.length
  case neg =>
    have hne : ¬ (l1.length : Int) = l2.length := by omega
    have hR := Lib.hid (show decide (l1 = l2) = false by simp only [decide_eq_false_iff_not]; intro e; exact hlen (by rw [e]))
    have hne' : ((l1.length : Int) != l2.length) = true := by simpa using hne
    clear h1 h2 hlen hne
    go_enter Try.func13, Try.ntmps13
    go_wp2
    go_ret
    rw [hR.out]
    exact ⟨rfl, Below.refl _ _⟩
  have H1 := Lib.hid h1
  have H2 := Lib.hid h2
  have hlen' : ((l1.length : Int) != l2.length) = false := by simp [hlen]
  have Hlen := Lib.hid hlen
  clear h1 h2 hlen
  go_enter Try.func13, Try.ntmps13
  go_wp2
  clear hlen'
  go_loopw [5] (fun i wr => ∃ k : Nat, k ≤ l1.length ∧ i = .int .i64 k ∧ Below w.heap.size w wr ∧ Hid (l1.take k = l2.take k)) (fun i _ => l1.length - (intOf i).toNat)
  case atStart => exact ⟨0, Nat.zero_le _, rfl, Below.refl _ _, by simp [Hid]⟩
  case round =>
    obtain ⟨k, hk, rfl, hB, heq⟩ := hrel
    by_cases hlt : k < l1.length
    · have hlt2 : k < l2.length := by rw [← Hlen.out]; exact hlt
      obtain ⟨b1, o1, rfl, -, x1⟩ := u8_at (H1.out.mono (Keep.below hB)) hlt
      obtain ⟨b2, o2, rfl, -, x2⟩ := u8_at (H2.out.mono (Keep.below hB)) hlt2
      go_wp2_with fail
      refine rg_enter [0, 1, 2, 3, 4, 5, 6, 7, 8] (fun w' => w'.cell? ⟨b1, o1 + k, none⟩ = some (.int .u8 l1[k].toNat) ∧ w'.cell? ⟨b2, o2 + k, none⟩ = some (.int .u8 l2[k].toNat)) (by kernel_rfl) ?_
      have hS := Lib.hid (show wr.drew.cell? ⟨b1, o1 + k, none⟩ = some (.int .u8 l1[k].toNat) ∧ wr.drew.cell? ⟨b2, o2 + k, none⟩ = some (.int .u8 l2[k].toNat) from ⟨x1, x2⟩)
      clear x1 x2
      apply rg_take 0 rfl (by kernel_rfl) (fun _ _ _ h => h) (hS.out) rfl
      · (rintro W ⟨s0, s1⟩; go_simp; try rfl)
      · (go_simp; try rfl)
      apply rg_take 1 rfl (by kernel_rfl) (fun _ _ _ h => h) (hS.out) rfl
      · (rintro W ⟨s0, s1⟩; go_simp; try rfl)
      · (go_simp; try rfl)
      apply rg_take 2 rfl (by kernel_rfl) (fun _ _ _ h => h) (hS.out) rfl
      · (rintro W ⟨s0, s1⟩; go_simp; try rfl)
      · (go_simp; try rfl)
      apply rg_take 3 rfl (by kernel_rfl) (fun _ _ _ h => h) (hS.out) rfl
      · (rintro W ⟨s0, s1⟩; go_simp; try rfl)
      · (go_simp; try rfl)
      apply rg_take 4 rfl (by kernel_rfl) (fun _ _ _ h => h) (hS.out) rfl
      · (rintro W ⟨s0, s1⟩; go_simp; try rfl)
      · (go_simp; try rfl)
      apply rg_take 5 rfl (by kernel_rfl) (fun _ _ _ h => h) (hS.out) rfl
      · (rintro W ⟨s0, s1⟩; go_simp; try rfl)
      · (go_simp; try rfl)
      apply rg_take 6 rfl (by kernel_rfl) (fun _ _ _ h => h) (hS.out) rfl
      · (rintro W ⟨s0, s1⟩; go_simp; try rfl)
      · (go_simp; try rfl)
      apply rg_take 7 rfl (by kernel_rfl) (fun _ _ _ h => h) (hS.out) rfl
      · (rintro W ⟨s0, s1⟩; go_simp; try rfl)
      · (go_simp; try rfl)
      apply rg_take 8 rfl (by kernel_rfl) (fun _ _ _ h => h) (hS.out) rfl
      · (rintro W ⟨s0, s1⟩; go_simp; try rfl)
      · (go_simp; try rfl)
      refine rg_done (by kernel_rfl) ?_
      go_wp2
      · have hne : ¬ l1[k] = l2[k] := by
          intro e
          have h : ((l1[k].toNat : Int) != l2[k].toNat) = true := ‹_›
          rw [e] at h
          simp at h
        have hR := Lib.hid (show decide (l1 = l2) = false by simp only [decide_eq_false_iff_not]; intro e; subst e; exact hne rfl)
        go_ret
        rw [hR.out]
        exact ⟨rfl, hB.drew⟩
      · have he : l1[k] = l2[k] := by
          have h : ((l1[k].toNat : Int) != l2[k].toNat) = false := ‹_›
          simp only [bne_eq_false_iff_eq] at h
          exact UInt8.toNat_inj.1 (by omega)
        go_roundw
        case rel => exact ⟨k + 1, by omega, by go_num, hB.drew, Lib.hid (take_ext heq.out hlt hlt2 he)⟩
        case measure => simp [intOf]; omega
    · obtain rfl : k = l1.length := by omega
      have hR := Lib.hid (show decide (l1 = l2) = true by
        simp only [decide_eq_true_eq]
        have h := heq.out
        rw [List.take_length] at h
        rw [h, List.take_of_length_le (by rw [Hlen.out]; exact Nat.le_refl _)])
      go_wp2
      go_ret
      rw [hR.out]
      exact ⟨rfl, hB⟩

set_option maxHeartbeats 4000000 in
theorem kimage_any (x y : Img) (v1 v2 : Value) (w : World) (M1 M2 : Ms) (h1 : SlR w M1 v1 x.bytes) (h2 : SlR w M2 v2 y.bytes) (hl : x.bytes.length ≤ 1000000000) :
    Calls Try.prog 18 #[.agg #[.int .i64 x.zone, .int .i64 x.what, v1], .agg #[.int .i64 y.zone, .int .i64 y.what, v2]] w fun e w' => e = .returned (.bool (decide (x = y))) ∧ Below w.heap.size w w' := by
  obtain ⟨z1, n1, l1⟩ := x
  obtain ⟨z2, n2, l2⟩ := y
  simp only at h1 h2 hl ⊢
  obtain ⟨a1, c1, rfl⟩ := h1.form
  obtain ⟨a2, c2, rfl⟩ := h2.form
  have HB := Lib.hid (fun o1 o2 => ((Below.refl w.heap.size w).alloc (Nat.le_refl _) o1).alloc (by simp) o2)
  by_cases hz : z1 = z2
  · subst hz
    by_cases hn : n1 = n2
    · subst hn
      have hE := Lib.hid (show decide ((⟨z1, n1, l1⟩ : Img) = ⟨z1, n1, l2⟩) = decide (l1 = l2) by simp)
      have hby := Lib.hid (fun (w' : World) (hb : Below w.heap.size w w') => bytes_any _ _ l1 l2 w' _ _ (h1.mono (Keep.below hb)) (h2.mono (Keep.below hb)) hl)
      rw [hE.out]
      go_enter Try.func18, Try.ntmps18
      go_wp2_with (go_at_call 13; go_must (with_reducible refine (hby.out _ (HB.out _ _)).mono ?_); rintro e w1 ⟨rfl, hB1⟩)
      go_ret
      exact ⟨rfl, (HB.out _ _).trans (hB1.mono (HB.out _ _).size)⟩
    · have hE := Lib.hid (show decide ((⟨z1, n1, l1⟩ : Img) = ⟨z1, n2, l2⟩) = false by simp [hn])
      have hn' : (n1 == n2) = false := by simpa using hn
      rw [hE.out]
      clear hn
      go_enter Try.func18, Try.ntmps18
      go_wp2
      go_ret
      exact ⟨rfl, HB.out _ _⟩
  · have hE := Lib.hid (show decide ((⟨z1, n1, l1⟩ : Img) = ⟨z2, n2, l2⟩) = false by simp [hz])
    have hn' : (z1 == z2) = false := by simpa using hz
    rw [hE.out]
    clear hz
    go_enter Try.func18, Try.ntmps18
    go_wp2
    go_ret
    exact ⟨rfl, HB.out _ _⟩

set_option maxHeartbeats 8000000 in
theorem krec_any (x y : Rc) (v1 v2 : Value) (w : World) (M1 M2 : Ms) (h1 : SlR w M1 v1 x.img.bytes) (h2 : SlR w M2 v2 y.img.bytes) (hl : x.img.bytes.length ≤ 1000000000) :
    Calls Try.prog 12 #[rv x v1, rv y v2] w fun e w' => e = .returned (.bool (decide (x = y))) ∧ Below w.heap.size w w' := by
  obtain ⟨k1, s1, e1, a1, o1, ⟨z1, n1, l1⟩⟩ := x
  obtain ⟨k2, s2, e2, a2, o2, ⟨z2, n2, l2⟩⟩ := y
  unfold rv
  simp only at h1 h2 hl ⊢
  obtain ⟨p1, c1, rfl⟩ := h1.form
  obtain ⟨p2, c2, rfl⟩ := h2.form
  have HB := Lib.hid (fun o1 o2 => ((Below.refl w.heap.size w).alloc (Nat.le_refl _) o1).alloc (by simp) o2)
  by_cases hk : k1 = k2
  · subst hk
    by_cases hs : s1 = s2
    · subst hs
      by_cases he : e1 = e2
      · subst he
        by_cases ha : a1 = a2
        · subst ha
          by_cases ho : o1 = o2
          · subst ho
            have hE := Lib.hid (show decide ((⟨k1, s1, e1, a1, o1, ⟨z1, n1, l1⟩⟩ : Rc) = ⟨k1, s1, e1, a1, o1, ⟨z2, n2, l2⟩⟩) = decide ((⟨z1, n1, l1⟩ : Img) = ⟨z2, n2, l2⟩) by simp)
            have hby := Lib.hid (fun (w' : World) (hb : Below w.heap.size w w') => kimage_any ⟨z1, n1, l1⟩ ⟨z2, n2, l2⟩ _ _ w' _ _ (h1.mono (Keep.below hb)) (h2.mono (Keep.below hb)) hl)
            rw [hE.out]
            simp only at hby
            obtain ⟨bb, hbb⟩ : ∃ bb, bb = decide ((⟨z1, n1, l1⟩ : Img) = ⟨z2, n2, l2⟩) := ⟨_, rfl⟩
            rw [← hbb] at hby ⊢
            clear hbb hE
            go_enter Try.func12, Try.ntmps12
            go_wp2_with (go_at_call 18; go_must (with_reducible refine (hby.out _ (HB.out _ _)).mono ?_); rintro e w1 ⟨rfl, hB1⟩)
            go_ret
            exact ⟨rfl, (HB.out _ _).trans (hB1.mono (HB.out _ _).size)⟩
          · have hE := Lib.hid (show decide ((⟨k1, s1, e1, a1, o1, ⟨z1, n1, l1⟩⟩ : Rc) = ⟨k1, s1, e1, a1, o2, ⟨z2, n2, l2⟩⟩) = false by simp [ho])
            have hn' : (o1 == o2) = false := by simpa using ho
            rw [hE.out]
            clear ho
            go_enter Try.func12, Try.ntmps12
            go_wp2
            go_ret
            exact ⟨rfl, HB.out _ _⟩
        · have hE := Lib.hid (show decide ((⟨k1, s1, e1, a1, o1, ⟨z1, n1, l1⟩⟩ : Rc) = ⟨k1, s1, e1, a2, o2, ⟨z2, n2, l2⟩⟩) = false by simp [ha])
          have hn' : (a1 == a2) = false := by simpa using ha
          rw [hE.out]
          clear ha
          go_enter Try.func12, Try.ntmps12
          go_wp2
          go_ret
          exact ⟨rfl, HB.out _ _⟩
      · have hE := Lib.hid (show decide ((⟨k1, s1, e1, a1, o1, ⟨z1, n1, l1⟩⟩ : Rc) = ⟨k1, s1, e2, a2, o2, ⟨z2, n2, l2⟩⟩) = false by simp [he])
        have hn' : (e1 == e2) = false := by simpa using he
        rw [hE.out]
        clear he
        go_enter Try.func12, Try.ntmps12
        go_wp2
        go_ret
        exact ⟨rfl, HB.out _ _⟩
    · have hE := Lib.hid (show decide ((⟨k1, s1, e1, a1, o1, ⟨z1, n1, l1⟩⟩ : Rc) = ⟨k1, s2, e2, a2, o2, ⟨z2, n2, l2⟩⟩) = false by simp [hs])
      have hn' : (s1 == s2) = false := by simpa using hs
      rw [hE.out]
      clear hs
      go_enter Try.func12, Try.ntmps12
      go_wp2
      go_ret
      exact ⟨rfl, HB.out _ _⟩
  · have hE := Lib.hid (show decide ((⟨k1, s1, e1, a1, o1, ⟨z1, n1, l1⟩⟩ : Rc) = ⟨k2, s2, e2, a2, o2, ⟨z2, n2, l2⟩⟩) = false by simp [hk])
    have hn' : (k1 == k2) = false := by simpa using hk
    rw [hE.out]
    clear hk
    go_enter Try.func12, Try.ntmps12
    go_wp2
    go_ret
    exact ⟨rfl, HB.out _ _⟩

theorem some0_any (w : World) : Calls Try.prog 37 #[.int .i64 0, .int .i64 0, .int .i64 0, .int .i64 0, .int .i64 0] w fun e w' => e = .returned (gv ⟨1, 1, 0, 14, 1⟩) ∧ Below w.heap.size w w' := by
  have HB := Lib.hid (fun o => (Below.refl w.heap.size w).alloc (Nat.le_refl _) o)
  go_enter Try.func37, Try.ntmps37
  go_wp2
  refine bodyPost_ret (v := gv ⟨1, 1, 0, 14, 1⟩) (by simp [results, Try.results37, go_sem, gv]) rfl ?_
  exact ⟨rfl, HB.out _⟩
end Go.Proofs.Ytpknhpfbinplgaa
