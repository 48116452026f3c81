/-
The walk of the law LockExact.
-/
import Derived.Test.YtombdkdidnoomaaLLaw
import Derived.Test.YtombdkdidnoomaaLWake
import Derived.Test.YtombdkdidnoomaaLRLocks
namespace Go.Proofs.Ytombdkdidnoomaa
open Go.RowKit
attribute [local go_sem ↓] Go.wp_at_zero Go.wp_at_succ

def SmallL (l : List Lk) : Prop := l.length ≤ 1000000 ∧ ∀ x ∈ l, x.reads.length ≤ 1000000
theorem SmallL.nil : SmallL [] := ⟨by simp, fun x h => by cases h⟩
theorem nxtL_small {l : List Lk} {t : Int} (h : okL l = true) : SmallL (nxtL l t) :=
  ⟨by have := nxtL_len (l := l) (t := t); have := okL_len h; omega, fun x hx => by have := (nxtL_one h hx).2; omega⟩
theorem set_small {l : List Lk} {i : Nat} {x : Lk} (h : SmallL l) (hx : x.reads.length ≤ 1000000) : SmallL (l.set i x) :=
  ⟨by rw [List.length_set]; exact h.1, fun y hy => by
    rcases List.mem_or_eq_of_mem_set hy with h1 | rfl
    · exact h.2 y h1
    · exact hx⟩
theorem insI_len (l : List Int) (x : Int) : (insI l x).length = l.length + 1 := by have := lb_le l x; simp [insI]; omega
theorem readL_small (l : List Lk) (id lba : Int) : SmallL (readL l id lba).1 := by
  unfold readL
  split
  · exact SmallL.nil
  · rename_i h
    have hok : okL l = true := by
      cases h1 : okL l with
      | true => rfl
      | false => exact absurd (.inl h1) h
    split
    · exact SmallL.nil
    · have hs := nxtL_small (t := lba) hok
      unfold readR
      split
      · exact SmallL.nil
      · split
        · exact hs
        · split
          · exact SmallL.nil
          · rename_i h8
            exact set_small hs (by simp only [insI_len]; omega)
theorem writeL_small (l : List Lk) (id lba : Int) : SmallL (writeL l id lba).1 := by
  unfold writeL
  split
  · exact SmallL.nil
  · rename_i h
    have hok : okL l = true := by
      cases h1 : okL l with
      | true => rfl
      | false => exact absurd (.inl h1) h
    split
    · exact SmallL.nil
    · have hs := nxtL_small (t := lba) hok
      unfold writeR
      split
      · exact SmallL.nil
      · exact set_small hs (by simp)
theorem dropF_small {l : List Lk} (id : Int) (h : SmallL l) : SmallL (dropF l id) := by
  refine ⟨by have := dropF_len l id; have := h.1; omega, fun x hx => ?_⟩
  obtain ⟨y, hy, rfl⟩ := List.mem_map.1 (List.mem_filter.1 hx).1
  have h1 := h.2 y hy
  have h2 := List.length_filter_le (fun z => !(z == id)) y.reads
  unfold dropK
  simp only
  omega
theorem heavy_small {l : List Lk} (h : heavyB l = false) : l.length ≤ 80 ∧ ∀ x ∈ l, x.reads.length ≤ 20 := by
  simp only [heavyB, Bool.or_eq_false_iff, decide_eq_false_iff_not, List.any_eq_false, decide_eq_true_eq] at h
  exact ⟨by omega, fun x hx => by have := h.2 x hx; omega⟩
theorem SmallL.g {l : List Lk} (h : SmallL l) : l.length ≤ 1000000000 ∧ ∀ x ∈ l, x.reads.length ≤ 1000000000 := ⟨by have := h.1; omega, fun x hx => by have := h.2 x hx; omega⟩

set_option maxRecDepth 100000 in
set_option maxHeartbeats 8000000 in
theorem lexact_any (v : Value) (l : List Lk) (id lba : Int) (w : World) (h : SlR w noM v l) (hbd : BdL l) (hx1 : lba ≤ mI) :
    Calls Try.prog 3 #[v, .int .i64 id, .int .i64 lba] w fun e w' => e = .returned (.bool true) ∧ Below w.heap.size w w' := by
  have hhv := Lib.hid (heavy_any v l w noM h)
  obtain ⟨a, c, rfl⟩ := h.form
  cases hH : heavyB l with
  | true =>
    rw [hH] at hhv
    clear h hbd hH
    go_enter Try.func3, Try.ntmps3
    go_wp2_with (go_at_call 6; go_must (refine hhv.out.mono ?_); rintro e w' ⟨rfl, rfl⟩)
    go_ret
    exact ⟨rfl, Below.refl _ _⟩
  | false =>
  rw [hH] at hhv
  obtain ⟨hl80, hr20⟩ := heavy_small hH
  have hsm : SmallL l := ⟨by omega, fun x hx => by have := hr20 x hx; omega⟩
  have HSM := Lib.hid hsm
  have H := Lib.hid h
  have HBD := Lib.hid hbd
  have htw := Lib.hid (twinL_any (.slice a l.length c) l w noM noM h (noMok _) hsm.g.1 hsm.g.2)
  have pa := Lib.hid (readL_small l id lba)
  have pb := Lib.hid (writeL_small l id lba)
  clear h hbd hH hr20 hsm
  cases hok : okL l with
  | false =>
    have q1 := Lib.hid (show readL l id lba = ([], 1) by simp [readL, hok])
    have q2 := Lib.hid (show writeL l id lba = ([], 1) by simp [writeL, hok])
    have q3 := Lib.hid (show dropL l id = ([], 1) by simp [dropL, hok])
    have Hok := Lib.hid hok
    clear hok pa pb
    go_enter Try.func3, Try.ntmps3
    go_wp2_with (go_at_call 6; go_must (refine hhv.out.mono ?_); rintro e w' ⟨rfl, rfl⟩)
    ((with_reducible refine htw.out.mono ?_); rintro e w1 ⟨r1, rfl, ho1, hB1⟩)
    obtain ⟨A1, c1, rfl⟩ := ho1.form
    have S1 := Lib.hid (ho1.sl (M := noM) (fun _ _ h => h))
    have B1 := Lib.hid hB1
    have hc2 := Lib.hid (read_any _ l id lba w1 noM S1.out HSM.out.1 HSM.out.g.2 HBD.out hx1)
    rw [q1.out] at hc2
    clear ho1 hB1 htw hhv
    go_wp2_with fail
    ((with_reducible refine hc2.out.mono ?_); rintro e w2 ⟨r2, rfl, hd2, hB2⟩)
    obtain ⟨A2, c2, rfl⟩ := hd2.form
    have S2 := Lib.hid (S1.out.mono (Keep.below hB2))
    have B2 := Lib.hid (B1.out.trans (hB2.mono B1.out.size))
    have hc3 := Lib.hid (write_any _ l id lba w2 noM S2.out HSM.out.1 HSM.out.g.2 HBD.out hx1)
    rw [q2.out] at hc3
    clear hd2 hB2 hc2
    go_wp2_with fail
    ((with_reducible refine hc3.out.mono ?_); rintro e w3 ⟨r3, rfl, hd3, hB3⟩)
    obtain ⟨A3, c3, rfl⟩ := hd3.form
    have S3 := Lib.hid (S2.out.mono (Keep.below hB3))
    have B3 := Lib.hid (B2.out.trans (hB3.mono B2.out.size))
    have hc4 := Lib.hid (drop_any _ l id w3 noM S3.out HSM.out.1 HSM.out.g.2)
    rw [q3.out] at hc4
    clear hd3 hB3 hc3
    go_wp2_with fail
    ((with_reducible refine hc4.out.mono ?_); rintro e w4 ⟨r4, rfl, hd4, hB4⟩)
    obtain ⟨A4, c4, rfl⟩ := hd4.form
    have S4 := Lib.hid (S3.out.mono (Keep.below hB4))
    have B4 := Lib.hid (B3.out.trans (hB4.mono B3.out.size))
    have hc5 := Lib.hid (locks_any _ _ l l w4 noM noM S4.out (H.out.mono (Keep.below B4.out)) HSM.out.g.1 HSM.out.g.2)
    rw [decide_eq_true rfl] at hc5
    clear hd4 hB4 hc4
    go_wp2_with fail
    ((with_reducible refine hc5.out.mono ?_); rintro e w5 ⟨rfl, hB5⟩)
    have S5 := Lib.hid (S4.out.mono (Keep.below hB5))
    have B5 := Lib.hid (B4.out.trans (hB5.mono B4.out.size))
    have hc6 := Lib.hid (rlocks_any _ l w5 noM (H.out.mono (Keep.below B5.out)) HSM.out.g.1 HSM.out.g.2)
    rw [Hok.out] at hc6
    clear hB5 hc5
    go_wp2_with fail
    ((with_reducible refine hc6.out.mono ?_); rintro e w6 ⟨rfl, hB6⟩)
    have S6 := Lib.hid (S5.out.mono (Keep.below hB6))
    have B6 := Lib.hid (B5.out.trans (hB6.mono B5.out.size))
    have hc7 := Lib.hid (check_any _ l w6 noM S6.out HSM.out.1 HSM.out.g.2)
    rw [Hok.out, show errL false = 1 from rfl] at hc7
    clear hB6 hc6
    go_wp2_with (go_at_call 13; go_must (refine hc7.out.mono ?_); rintro e w7 ⟨rfl, hB7⟩; have B7 := Lib.hid (B6.out.trans (hB7.mono B6.out.size)); clear hB7)
    ((with_reducible refine (wakes_any w7).mono ?_); rintro e w8 ⟨rfl, hB8⟩)
    have B8 := Lib.hid (B7.out.trans (hB8.mono B7.out.size))
    clear hB8
    go_wp2
    go_ret
    exact ⟨rfl, B8.out⟩
  | true =>
  have Hok := Lib.hid hok
  by_cases hid : id < 0
  · have q1 := Lib.hid (show readL l id lba = ([], 1) by simp [readL, hid])
    have q2 := Lib.hid (show writeL l id lba = ([], 1) by simp [writeL, hid])
    have q3 := Lib.hid (show dropL l id = ([], 1) by simp [dropL, hid])
    clear hok pa pb
    go_enter Try.func3, Try.ntmps3
    go_wp2_with (go_at_call 6; go_must (refine hhv.out.mono ?_); rintro e w' ⟨rfl, rfl⟩)
    ((with_reducible refine htw.out.mono ?_); rintro e w1 ⟨r1, rfl, ho1, hB1⟩)
    obtain ⟨A1, c1, rfl⟩ := ho1.form
    have S1 := Lib.hid (ho1.sl (M := noM) (fun _ _ h => h))
    have B1 := Lib.hid hB1
    have hc2 := Lib.hid (read_any _ l id lba w1 noM S1.out HSM.out.1 HSM.out.g.2 HBD.out hx1)
    rw [q1.out] at hc2
    clear ho1 hB1 htw hhv
    go_wp2_with fail
    ((with_reducible refine hc2.out.mono ?_); rintro e w2 ⟨r2, rfl, hd2, hB2⟩)
    obtain ⟨A2, c2, rfl⟩ := hd2.form
    have TA := Lib.hid (hd2.sl (M := noM) (fun _ _ h => h))
    have S2 := Lib.hid (S1.out.mono (Keep.below hB2))
    have B2 := Lib.hid (B1.out.trans (hB2.mono B1.out.size))
    have hc3 := Lib.hid (write_any _ l id lba w2 noM S2.out HSM.out.1 HSM.out.g.2 HBD.out hx1)
    rw [q2.out] at hc3
    clear hd2 hB2 hc2
    go_wp2_with fail
    ((with_reducible refine hc3.out.mono ?_); rintro e w3 ⟨r3, rfl, hd3, hB3⟩)
    obtain ⟨A3, c3, rfl⟩ := hd3.form
    have TB := Lib.hid (hd3.sl (M := noM) (fun _ _ h => h))
    replace TA := Lib.hid (TA.out.mono (Keep.below hB3))
    have S3 := Lib.hid (S2.out.mono (Keep.below hB3))
    have B3 := Lib.hid (B2.out.trans (hB3.mono B2.out.size))
    have hc4 := Lib.hid (drop_any _ l id w3 noM S3.out HSM.out.1 HSM.out.g.2)
    rw [q3.out] at hc4
    clear hd3 hB3 hc3
    go_wp2_with fail
    ((with_reducible refine hc4.out.mono ?_); rintro e w4 ⟨r4, rfl, hd4, hB4⟩)
    obtain ⟨A4, c4, rfl⟩ := hd4.form
    have TC := Lib.hid (hd4.sl (M := noM) (fun _ _ h => h))
    replace TA := Lib.hid (TA.out.mono (Keep.below hB4))
    replace TB := Lib.hid (TB.out.mono (Keep.below hB4))
    have S4 := Lib.hid (S3.out.mono (Keep.below hB4))
    have B4 := Lib.hid (B3.out.trans (hB4.mono B3.out.size))
    have hc5 := Lib.hid (locks_any _ _ l l w4 noM noM S4.out (H.out.mono (Keep.below B4.out)) HSM.out.g.1 HSM.out.g.2)
    rw [decide_eq_true rfl] at hc5
    clear hd4 hB4 hc4
    go_wp2_with fail
    ((with_reducible refine hc5.out.mono ?_); rintro e w5 ⟨rfl, hB5⟩)
    replace TA := Lib.hid (TA.out.mono (Keep.below hB5))
    replace TB := Lib.hid (TB.out.mono (Keep.below hB5))
    replace TC := Lib.hid (TC.out.mono (Keep.below hB5))
    have S5 := Lib.hid (S4.out.mono (Keep.below hB5))
    have B5 := Lib.hid (B4.out.trans (hB5.mono B4.out.size))
    have hc6 := Lib.hid (rlocks_any _ l w5 noM (H.out.mono (Keep.below B5.out)) HSM.out.g.1 HSM.out.g.2)
    rw [Hok.out] at hc6
    clear hB5 hc5
    go_wp2_with fail
    ((with_reducible refine hc6.out.mono ?_); rintro e w6 ⟨rfl, hB6⟩)
    replace TA := Lib.hid (TA.out.mono (Keep.below hB6))
    replace TB := Lib.hid (TB.out.mono (Keep.below hB6))
    replace TC := Lib.hid (TC.out.mono (Keep.below hB6))
    have S6 := Lib.hid (S5.out.mono (Keep.below hB6))
    have B6 := Lib.hid (B5.out.trans (hB6.mono B5.out.size))
    have hc7 := Lib.hid (check_any _ l w6 noM S6.out HSM.out.1 HSM.out.g.2)
    rw [Hok.out, show errL true = 0 from rfl] at hc7
    clear hB6 hc6
    go_wp2_with fail
    ((with_reducible refine hc7.out.mono ?_); rintro e w7 ⟨rfl, hB7⟩)
    replace TA := Lib.hid (TA.out.mono (Keep.below hB7))
    replace TB := Lib.hid (TB.out.mono (Keep.below hB7))
    replace TC := Lib.hid (TC.out.mono (Keep.below hB7))
    have B7 := Lib.hid (B6.out.trans (hB7.mono B6.out.size))
    clear hB7 hc7
    go_wp2_with fail
    ((with_reducible refine (wakes_any w7).mono ?_); rintro e w20 ⟨rfl, hB20⟩)
    have B20 := Lib.hid (B7.out.trans (hB20.mono B7.out.size))
    clear hB20
    go_wp2
    go_ret
    exact ⟨rfl, B20.out⟩
  have q3 := Lib.hid (show dropL l id = (dropF l id, 0) by simp [dropL, hok, hid])
  by_cases hlb : lba < 0
  · have q1 := Lib.hid (show readL l id lba = ([], 1) by simp [readL, hlb])
    have q2 := Lib.hid (show writeL l id lba = ([], 1) by simp [writeL, hlb])
    clear hok pa pb
    go_enter Try.func3, Try.ntmps3
    go_wp2_with (go_at_call 6; go_must (refine hhv.out.mono ?_); rintro e w' ⟨rfl, rfl⟩)
    ((with_reducible refine htw.out.mono ?_); rintro e w1 ⟨r1, rfl, ho1, hB1⟩)
    obtain ⟨A1, c1, rfl⟩ := ho1.form
    have S1 := Lib.hid (ho1.sl (M := noM) (fun _ _ h => h))
    have B1 := Lib.hid hB1
    have hc2 := Lib.hid (read_any _ l id lba w1 noM S1.out HSM.out.1 HSM.out.g.2 HBD.out hx1)
    rw [q1.out] at hc2
    clear ho1 hB1 htw hhv
    go_wp2_with fail
    ((with_reducible refine hc2.out.mono ?_); rintro e w2 ⟨r2, rfl, hd2, hB2⟩)
    obtain ⟨A2, c2, rfl⟩ := hd2.form
    have TA := Lib.hid (hd2.sl (M := noM) (fun _ _ h => h))
    have S2 := Lib.hid (S1.out.mono (Keep.below hB2))
    have B2 := Lib.hid (B1.out.trans (hB2.mono B1.out.size))
    have hc3 := Lib.hid (write_any _ l id lba w2 noM S2.out HSM.out.1 HSM.out.g.2 HBD.out hx1)
    rw [q2.out] at hc3
    clear hd2 hB2 hc2
    go_wp2_with fail
    ((with_reducible refine hc3.out.mono ?_); rintro e w3 ⟨r3, rfl, hd3, hB3⟩)
    obtain ⟨A3, c3, rfl⟩ := hd3.form
    have TB := Lib.hid (hd3.sl (M := noM) (fun _ _ h => h))
    replace TA := Lib.hid (TA.out.mono (Keep.below hB3))
    have S3 := Lib.hid (S2.out.mono (Keep.below hB3))
    have B3 := Lib.hid (B2.out.trans (hB3.mono B2.out.size))
    have hc4 := Lib.hid (drop_any _ l id w3 noM S3.out HSM.out.1 HSM.out.g.2)
    rw [q3.out] at hc4
    clear hd3 hB3 hc3
    go_wp2_with fail
    ((with_reducible refine hc4.out.mono ?_); rintro e w4 ⟨r4, rfl, hd4, hB4⟩)
    obtain ⟨A4, c4, rfl⟩ := hd4.form
    have TC := Lib.hid (hd4.sl (M := noM) (fun _ _ h => h))
    replace TA := Lib.hid (TA.out.mono (Keep.below hB4))
    replace TB := Lib.hid (TB.out.mono (Keep.below hB4))
    have S4 := Lib.hid (S3.out.mono (Keep.below hB4))
    have B4 := Lib.hid (B3.out.trans (hB4.mono B3.out.size))
    have hc5 := Lib.hid (locks_any _ _ l l w4 noM noM S4.out (H.out.mono (Keep.below B4.out)) HSM.out.g.1 HSM.out.g.2)
    rw [decide_eq_true rfl] at hc5
    clear hd4 hB4 hc4
    go_wp2_with fail
    ((with_reducible refine hc5.out.mono ?_); rintro e w5 ⟨rfl, hB5⟩)
    replace TA := Lib.hid (TA.out.mono (Keep.below hB5))
    replace TB := Lib.hid (TB.out.mono (Keep.below hB5))
    replace TC := Lib.hid (TC.out.mono (Keep.below hB5))
    have S5 := Lib.hid (S4.out.mono (Keep.below hB5))
    have B5 := Lib.hid (B4.out.trans (hB5.mono B4.out.size))
    have hc6 := Lib.hid (rlocks_any _ l w5 noM (H.out.mono (Keep.below B5.out)) HSM.out.g.1 HSM.out.g.2)
    rw [Hok.out] at hc6
    clear hB5 hc5
    go_wp2_with fail
    ((with_reducible refine hc6.out.mono ?_); rintro e w6 ⟨rfl, hB6⟩)
    replace TA := Lib.hid (TA.out.mono (Keep.below hB6))
    replace TB := Lib.hid (TB.out.mono (Keep.below hB6))
    replace TC := Lib.hid (TC.out.mono (Keep.below hB6))
    have S6 := Lib.hid (S5.out.mono (Keep.below hB6))
    have B6 := Lib.hid (B5.out.trans (hB6.mono B5.out.size))
    have hc7 := Lib.hid (check_any _ l w6 noM S6.out HSM.out.1 HSM.out.g.2)
    rw [Hok.out, show errL true = 0 from rfl] at hc7
    clear hB6 hc6
    go_wp2_with fail
    ((with_reducible refine hc7.out.mono ?_); rintro e w7 ⟨rfl, hB7⟩)
    replace TA := Lib.hid (TA.out.mono (Keep.below hB7))
    replace TB := Lib.hid (TB.out.mono (Keep.below hB7))
    replace TC := Lib.hid (TC.out.mono (Keep.below hB7))
    have B7 := Lib.hid (B6.out.trans (hB7.mono B6.out.size))
    clear hB7 hc7
    have hrd := Lib.hid (rdrop_any _ l id w7 noM (H.out.mono (Keep.below B7.out)) HSM.out.1 HSM.out.2)
    go_wp2_with fail
    ((with_reducible refine hrd.out.mono ?_); rintro e w8 ⟨r8, rfl, hd8, hB8⟩)
    obtain ⟨A8, c8, rfl⟩ := hd8.form
    replace TA := Lib.hid (TA.out.mono (Keep.below hB8))
    replace TB := Lib.hid (TB.out.mono (Keep.below hB8))
    have B8 := Lib.hid (B7.out.trans (hB8.mono B7.out.size))
    have hc9 := Lib.hid (locks_any _ _ (dropF l id) (rDropF l id) w8 noM noM (TC.out.mono (Keep.below hB8)) hd8 (dropF_small id HSM.out).g.1 (dropF_small id HSM.out).g.2)
    rw [decide_eq_true (drop_law Hok.out)] at hc9
    clear hd8 hB8 TC
    go_wp2_with fail
    ((with_reducible refine hc9.out.mono ?_); rintro e w9 ⟨rfl, hB9⟩)
    replace TA := Lib.hid (TA.out.mono (Keep.below hB9))
    replace TB := Lib.hid (TB.out.mono (Keep.below hB9))
    have B9 := Lib.hid (B8.out.trans (hB9.mono B8.out.size))
    clear hB9 hc9
    go_wp2_with fail
    ((with_reducible refine (wakes_any w9).mono ?_); rintro e w20 ⟨rfl, hB20⟩)
    have B20 := Lib.hid (B9.out.trans (hB20.mono B9.out.size))
    clear hB20
    go_wp2
    go_ret
    exact ⟨rfl, B20.out⟩
  obtain ⟨LA, EA, q1⟩ : ∃ LA EA, readL l id lba = (LA, EA) := ⟨_, _, rfl⟩
  obtain ⟨LB, EB, q2⟩ : ∃ LB EB, writeL l id lba = (LB, EB) := ⟨_, _, rfl⟩
  have q4 := Lib.hid (show rRead l id lba = (LA, EA) by rw [← read_law hok (by omega) (by omega)]; exact q1)
  have q5 := Lib.hid (show rWrite l id lba = (LB, EB) by rw [← write_law hok (by omega) (by omega)]; exact q2)
  rw [q1] at pa
  rw [q2] at pb
  replace q1 := Lib.hid q1
  replace q2 := Lib.hid q2
  clear hok
  go_enter Try.func3, Try.ntmps3
  go_wp2_with (go_at_call 6; go_must (refine hhv.out.mono ?_); rintro e w' ⟨rfl, rfl⟩)
  ((with_reducible refine htw.out.mono ?_); rintro e w1 ⟨r1, rfl, ho1, hB1⟩)
  obtain ⟨A1, c1, rfl⟩ := ho1.form
  have S1 := Lib.hid (ho1.sl (M := noM) (fun _ _ h => h))
  have B1 := Lib.hid hB1
  have hc2 := Lib.hid (read_any _ l id lba w1 noM S1.out HSM.out.1 HSM.out.g.2 HBD.out hx1)
  rw [q1.out] at hc2
  clear ho1 hB1 htw hhv
  go_wp2_with fail
  ((with_reducible refine hc2.out.mono ?_); rintro e w2 ⟨r2, rfl, hd2, hB2⟩)
  obtain ⟨A2, c2, rfl⟩ := hd2.form
  have TA := Lib.hid (hd2.sl (M := noM) (fun _ _ h => h))
  have S2 := Lib.hid (S1.out.mono (Keep.below hB2))
  have B2 := Lib.hid (B1.out.trans (hB2.mono B1.out.size))
  have hc3 := Lib.hid (write_any _ l id lba w2 noM S2.out HSM.out.1 HSM.out.g.2 HBD.out hx1)
  rw [q2.out] at hc3
  clear hd2 hB2 hc2
  go_wp2_with fail
  ((with_reducible refine hc3.out.mono ?_); rintro e w3 ⟨r3, rfl, hd3, hB3⟩)
  obtain ⟨A3, c3, rfl⟩ := hd3.form
  have TB := Lib.hid (hd3.sl (M := noM) (fun _ _ h => h))
  replace TA := Lib.hid (TA.out.mono (Keep.below hB3))
  have S3 := Lib.hid (S2.out.mono (Keep.below hB3))
  have B3 := Lib.hid (B2.out.trans (hB3.mono B2.out.size))
  have hc4 := Lib.hid (drop_any _ l id w3 noM S3.out HSM.out.1 HSM.out.g.2)
  rw [q3.out] at hc4
  clear hd3 hB3 hc3
  go_wp2_with fail
  ((with_reducible refine hc4.out.mono ?_); rintro e w4 ⟨r4, rfl, hd4, hB4⟩)
  obtain ⟨A4, c4, rfl⟩ := hd4.form
  have TC := Lib.hid (hd4.sl (M := noM) (fun _ _ h => h))
  replace TA := Lib.hid (TA.out.mono (Keep.below hB4))
  replace TB := Lib.hid (TB.out.mono (Keep.below hB4))
  have S4 := Lib.hid (S3.out.mono (Keep.below hB4))
  have B4 := Lib.hid (B3.out.trans (hB4.mono B3.out.size))
  have hc5 := Lib.hid (locks_any _ _ l l w4 noM noM S4.out (H.out.mono (Keep.below B4.out)) HSM.out.g.1 HSM.out.g.2)
  rw [decide_eq_true rfl] at hc5
  clear hd4 hB4 hc4
  go_wp2_with fail
  ((with_reducible refine hc5.out.mono ?_); rintro e w5 ⟨rfl, hB5⟩)
  replace TA := Lib.hid (TA.out.mono (Keep.below hB5))
  replace TB := Lib.hid (TB.out.mono (Keep.below hB5))
  replace TC := Lib.hid (TC.out.mono (Keep.below hB5))
  have S5 := Lib.hid (S4.out.mono (Keep.below hB5))
  have B5 := Lib.hid (B4.out.trans (hB5.mono B4.out.size))
  have hc6 := Lib.hid (rlocks_any _ l w5 noM (H.out.mono (Keep.below B5.out)) HSM.out.g.1 HSM.out.g.2)
  rw [Hok.out] at hc6
  clear hB5 hc5
  go_wp2_with fail
  ((with_reducible refine hc6.out.mono ?_); rintro e w6 ⟨rfl, hB6⟩)
  replace TA := Lib.hid (TA.out.mono (Keep.below hB6))
  replace TB := Lib.hid (TB.out.mono (Keep.below hB6))
  replace TC := Lib.hid (TC.out.mono (Keep.below hB6))
  have S6 := Lib.hid (S5.out.mono (Keep.below hB6))
  have B6 := Lib.hid (B5.out.trans (hB6.mono B5.out.size))
  have hc7 := Lib.hid (check_any _ l w6 noM S6.out HSM.out.1 HSM.out.g.2)
  rw [Hok.out, show errL true = 0 from rfl] at hc7
  clear hB6 hc6
  go_wp2_with fail
  ((with_reducible refine hc7.out.mono ?_); rintro e w7 ⟨rfl, hB7⟩)
  replace TA := Lib.hid (TA.out.mono (Keep.below hB7))
  replace TB := Lib.hid (TB.out.mono (Keep.below hB7))
  replace TC := Lib.hid (TC.out.mono (Keep.below hB7))
  have B7 := Lib.hid (B6.out.trans (hB7.mono B6.out.size))
  clear hB7 hc7
  have hrd := Lib.hid (rdrop_any _ l id w7 noM (H.out.mono (Keep.below B7.out)) HSM.out.1 HSM.out.2)
  go_wp2_with fail
  ((with_reducible refine hrd.out.mono ?_); rintro e w8 ⟨r8, rfl, hd8, hB8⟩)
  obtain ⟨A8, c8, rfl⟩ := hd8.form
  replace TA := Lib.hid (TA.out.mono (Keep.below hB8))
  replace TB := Lib.hid (TB.out.mono (Keep.below hB8))
  have B8 := Lib.hid (B7.out.trans (hB8.mono B7.out.size))
  have hc9 := Lib.hid (locks_any _ _ (dropF l id) (rDropF l id) w8 noM noM (TC.out.mono (Keep.below hB8)) hd8 (dropF_small id HSM.out).g.1 (dropF_small id HSM.out).g.2)
  rw [decide_eq_true (drop_law Hok.out)] at hc9
  clear hd8 hB8 TC
  go_wp2_with fail
  ((with_reducible refine hc9.out.mono ?_); rintro e w9 ⟨rfl, hB9⟩)
  replace TA := Lib.hid (TA.out.mono (Keep.below hB9))
  replace TB := Lib.hid (TB.out.mono (Keep.below hB9))
  have B9 := Lib.hid (B8.out.trans (hB9.mono B8.out.size))
  clear hB9 hc9
  go_wp2_with fail
  ((with_reducible refine (rread_any _ l id lba w9 noM (H.out.mono (Keep.below B9.out)) Hok.out).mono ?_); rintro e w10 ⟨r10, rfl, hd10, hB10⟩)
  rw [q4.out] at hd10 ⊢
  obtain ⟨A10, c10, rfl⟩ := hd10.form
  replace TA := Lib.hid (TA.out.mono (Keep.below hB10))
  replace TB := Lib.hid (TB.out.mono (Keep.below hB10))
  have TX := Lib.hid hd10
  have B10 := Lib.hid (B9.out.trans (hB10.mono B9.out.size))
  clear hd10 hB10
  go_wp2_with fail
  ((with_reducible refine (rwrite_any _ l id lba w10 noM (H.out.mono (Keep.below B10.out)) Hok.out).mono ?_); rintro e w11 ⟨r11, rfl, hd11, hB11⟩)
  rw [q5.out] at hd11 ⊢
  obtain ⟨A11, c11, rfl⟩ := hd11.form
  replace TA := Lib.hid (TA.out.mono (Keep.below hB11))
  replace TB := Lib.hid (TB.out.mono (Keep.below hB11))
  replace TX := Lib.hid (TX.out.mono (Keep.below hB11))
  have TY := Lib.hid hd11
  have B11 := Lib.hid (B10.out.trans (hB11.mono B10.out.size))
  have hc12 := Lib.hid (locks_any _ _ LA LA w11 noM noM TA.out TX.out pa.out.g.1 pa.out.g.2)
  rw [decide_eq_true rfl] at hc12
  clear hd11 hB11
  go_wp2_with fail
  ((with_reducible refine hc12.out.mono ?_); rintro e w12 ⟨rfl, hB12⟩)
  have B12 := Lib.hid (B11.out.trans (hB12.mono B11.out.size))
  have hc13 := Lib.hid (locks_any _ _ LB LB w12 noM noM (TB.out.mono (Keep.below hB12)) (TY.out.mono (Keep.below hB12)) pb.out.g.1 pb.out.g.2)
  rw [decide_eq_true rfl] at hc13
  clear hB12 hc12
  go_wp2_with fail
  ((with_reducible refine hc13.out.mono ?_); rintro e w13 ⟨rfl, hB13⟩)
  have B13 := Lib.hid (B12.out.trans (hB13.mono B12.out.size))
  clear hB13 hc13
  go_wp2_with fail
  ((with_reducible refine (wakes_any w13).mono ?_); rintro e w20 ⟨rfl, hB20⟩)
  have B20 := Lib.hid (B13.out.trans (hB20.mono B13.out.size))
  clear hB20
  go_wp2
  go_ret
  exact ⟨rfl, B20.out⟩
end Go.Proofs.Ytombdkdidnoomaa
