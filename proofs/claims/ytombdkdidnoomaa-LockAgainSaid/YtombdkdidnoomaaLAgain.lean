/-
The walk of the law LockAgain.
-/
import Derived.Test.YtombdkdidnoomaaLApart
import Derived.Test.YtombdkdidnoomaaLExact
namespace Go.Proofs.Ytombdkdidnoomaa
open Go.RowKit
attribute [local go_sem ↓] Go.wp_at_zero Go.wp_at_succ

theorem putL_bd {l : List Lk} {t : Int} {y : Lk} (h : BdL l) (ht : t ≤ mI) (hy : y.lba = t) : BdL (putL l t y) := fun x hx => by
  unfold putL at hx
  rcases List.mem_or_eq_of_mem_set hx with h1 | rfl
  · rcases nxtL_mem h1 with h2 | rfl
    · exact h x h2
    · exact ht
  · rw [hy]; exact ht
theorem readL_bd {l : List Lk} {id lba : Int} (hok : okL l = true) (h0 : 0 ≤ id) (h1 : 0 ≤ lba) (ht : lba ≤ mI) (h : BdL l) (he : (readL l id lba).2 = 0) : BdL (readL l id lba).1 := by
  rcases readL_cases hok h0 h1 he with ⟨e, _⟩ | ⟨y, e, hy, _⟩
  · rw [e]; exact h
  · rw [e]; exact putL_bd h ht hy
theorem writeL_bd {l : List Lk} {id lba : Int} (hok : okL l = true) (h0 : 0 ≤ id) (h1 : 0 ≤ lba) (ht : lba ≤ mI) (h : BdL l) (he : (writeL l id lba).2 = 0) : BdL (writeL l id lba).1 := by
  rw [(writeL_cases hok h0 h1 he).1]; exact putL_bd h ht rfl

set_option maxRecDepth 100000 in
set_option maxHeartbeats 8000000 in
theorem lagain_any (v : Value) (l : List Lk) (id lba : Int) (w : World) (h : SlR w noM v l) (hbd : BdL l) (hx1 : lba ≤ mI) :
    Calls Try.prog 5 #[v, .int .i64 id, .int .i64 lba] w fun e w' => e = .returned (.bool true) ∧ Below w.heap.size w w' := by
  have hhv := Lib.hid (heavy_any v l w noM h)
  obtain ⟨a, c, rfl⟩ := h.form
  cases hH : heavyB l with
  | true =>
    rw [hH] at hhv
    clear h hbd hH
    go_enter Try.func5, Try.ntmps5
    go_wp2_with (go_at_call 6; go_must (refine hhv.out.mono ?_); rintro e w' ⟨rfl, rfl⟩)
    go_ret
    exact ⟨rfl, Below.refl _ _⟩
  | false =>
  rw [hH] at hhv
  obtain ⟨hl80, hr20⟩ := heavy_small hH
  have hsm : SmallL l := ⟨by omega, fun x hx => by have := hr20 x hx; omega⟩
  have HSM := Lib.hid hsm
  have H := Lib.hid h
  have HBD := Lib.hid hbd
  have hrl := Lib.hid (rlocks_any (.slice a l.length c) l w noM h hsm.g.1 hsm.g.2)
  clear h hH hr20 hsm
  cases hok : okL l with
  | false =>
    rw [hok] at hrl
    clear hok hbd
    go_enter Try.func5, Try.ntmps5
    go_wp2_with (go_at_call 6; go_must (refine hhv.out.mono ?_); rintro e w' ⟨rfl, rfl⟩)
    ((with_reducible refine hrl.out.mono ?_); rintro e w1 ⟨rfl, hB1⟩)
    have B1 := Lib.hid hB1
    clear hB1 hrl
    go_wp2
    go_ret
    exact ⟨rfl, B1.out⟩
  | true =>
  rw [hok] at hrl
  by_cases hid : id < 0
  · clear hok hbd
    go_enter Try.func5, Try.ntmps5
    go_wp2_with (go_at_call 6; go_must (refine hhv.out.mono ?_); rintro e w' ⟨rfl, rfl⟩)
    ((with_reducible refine hrl.out.mono ?_); rintro e w1 ⟨rfl, hB1⟩)
    have B1 := Lib.hid hB1
    clear hB1 hrl
    go_wp2
    go_ret
    exact ⟨rfl, B1.out⟩
  by_cases hlb : lba < 0
  · clear hok hbd
    go_enter Try.func5, Try.ntmps5
    go_wp2_with (go_at_call 6; go_must (refine hhv.out.mono ?_); rintro e w' ⟨rfl, rfl⟩)
    ((with_reducible refine hrl.out.mono ?_); rintro e w1 ⟨rfl, hB1⟩)
    have B1 := Lib.hid hB1
    clear hB1 hrl
    go_wp2
    go_ret
    exact ⟨rfl, B1.out⟩
  have h0 : 0 ≤ id := by omega
  have h1 : 0 ≤ lba := by omega
  obtain ⟨LA, EA, q1⟩ : ∃ LA EA, readL l id lba = (LA, EA) := ⟨_, _, rfl⟩
  obtain ⟨LB, EB, q2⟩ : ∃ LB EB, writeL l id lba = (LB, EB) := ⟨_, _, rfl⟩
  have pa := Lib.hid (readL_small l id lba)
  have pb := Lib.hid (writeL_small l id lba)
  have ra := Lib.hid (fun he => And.intro (readL_bd hok h0 h1 hx1 hbd he) (again_read hok h0 h1 he).2)
  have rb := Lib.hid (fun he => And.intro (writeL_bd hok h0 h1 hx1 hbd he) (again_write hok h0 h1 he).2)
  have rc := Lib.hid (fun he => (writeL_cases hok h0 h1 he).2.2)
  rw [q1] at pa ra rc
  rw [q2] at pb rb rc
  replace q1 := Lib.hid q1
  replace q2 := Lib.hid q2
  clear hok hbd h0 h1
  by_cases eb : EB = 0
  · have ea : EA = 0 := rc.out eb
    have PA := Lib.hid (ra.out ea)
    have PB := Lib.hid (rb.out eb)
    subst ea eb
    clear ra rb rc
    go_enter Try.func5, Try.ntmps5
    go_wp2_with (go_at_call 6; go_must (refine hhv.out.mono ?_); rintro e w' ⟨rfl, rfl⟩)
    ((with_reducible refine hrl.out.mono ?_); rintro e w1 ⟨rfl, hB1⟩)
    have B1 := Lib.hid hB1
    clear hB1 hrl
    have hc2 := Lib.hid (read_any _ l id lba w1 noM (H.out.mono (Keep.below B1.out)) HSM.out.1 HSM.out.g.2 HBD.out hx1)
    rw [q1.out] at hc2
    go_wp2_with fail
    ((with_reducible refine hc2.out.mono ?_); rintro e w2 ⟨r2, rfl, hd2, hB2⟩)
    obtain ⟨A2, c2, rfl⟩ := hd2.form
    have TA := Lib.hid (hd2.sl (M := noM) (fun _ _ h => h))
    have B2 := Lib.hid (B1.out.trans (hB2.mono B1.out.size))
    have hc3 := Lib.hid (write_any _ l id lba w2 noM (H.out.mono (Keep.below B2.out)) HSM.out.1 HSM.out.g.2 HBD.out hx1)
    rw [q2.out] at hc3
    clear hd2 hB2 hc2
    go_wp2_with fail
    ((with_reducible refine hc3.out.mono ?_); rintro e w3 ⟨r3, rfl, hd3, hB3⟩)
    obtain ⟨A3, c3, rfl⟩ := hd3.form
    have TB := Lib.hid (hd3.sl (M := noM) (fun _ _ h => h))
    replace TA := Lib.hid (TA.out.mono (Keep.below hB3))
    have B3 := Lib.hid (B2.out.trans (hB3.mono B2.out.size))
    clear hd3 hB3 hc3
    have hc4 := Lib.hid (read_any _ LA id lba w3 noM TA.out pa.out.1 pa.out.g.2 PA.out.1 hx1)
    rw [PA.out.2.1] at hc4
    go_wp2_with fail
    ((with_reducible refine hc4.out.mono ?_); rintro e w4 ⟨r4, rfl, hd4, hB4⟩)
    obtain ⟨A4, c4, rfl⟩ := hd4.form
    have B4 := Lib.hid (B3.out.trans (hB4.mono B3.out.size))
    replace TA := Lib.hid (TA.out.mono (Keep.below hB4))
    replace TB := Lib.hid (TB.out.mono (Keep.below hB4))
    have hc5 := Lib.hid (locks_any _ _ LA LA w4 noM noM TA.out (hd4.sl (fun _ _ h => h)) pa.out.g.1 pa.out.g.2)
    rw [decide_eq_true rfl] at hc5
    clear hd4 hB4 hc4
    go_wp2_with fail
    ((with_reducible refine hc5.out.mono ?_); rintro e w5 ⟨rfl, hB5⟩)
    have B5 := Lib.hid (B4.out.trans (hB5.mono B4.out.size))
    replace TA := Lib.hid (TA.out.mono (Keep.below hB5))
    replace TB := Lib.hid (TB.out.mono (Keep.below hB5))
    have hc6 := Lib.hid (apart_any _ _ LA l lba w5 noM noM TA.out (H.out.mono (Keep.below B5.out)) pa.out.1 HSM.out.1 pa.out.g.2)
    rw [decide_eq_true (show offL LA lba = offL l lba from PA.out.2.2)] at hc6
    clear hB5 hc5
    go_wp2_with fail
    ((with_reducible refine hc6.out.mono ?_); rintro e w6 ⟨rfl, hB6⟩)
    have B6 := Lib.hid (B5.out.trans (hB6.mono B5.out.size))
    replace TB := Lib.hid (TB.out.mono (Keep.below hB6))
    clear hB6 hc6 TA
    have hc7 := Lib.hid (write_any _ LB id lba w6 noM TB.out pb.out.1 pb.out.g.2 PB.out.1 hx1)
    rw [PB.out.2.1] at hc7
    go_wp2_with fail
    ((with_reducible refine hc7.out.mono ?_); rintro e w7 ⟨r7, rfl, hd7, hB7⟩)
    obtain ⟨A7, c7, rfl⟩ := hd7.form
    have TC := Lib.hid (hd7.sl (M := noM) (fun _ _ h => h))
    have B7 := Lib.hid (B6.out.trans (hB7.mono B6.out.size))
    replace TB := Lib.hid (TB.out.mono (Keep.below hB7))
    have hc8 := Lib.hid (read_any _ LB id lba w7 noM TB.out pb.out.1 pb.out.g.2 PB.out.1 hx1)
    rw [PB.out.2.2.1] at hc8
    clear hd7 hB7 hc7
    go_wp2_with fail
    ((with_reducible refine hc8.out.mono ?_); rintro e w8 ⟨r8, rfl, hd8, hB8⟩)
    obtain ⟨A8, c8, rfl⟩ := hd8.form
    have TD := Lib.hid (hd8.sl (M := noM) (fun _ _ h => h))
    have B8 := Lib.hid (B7.out.trans (hB8.mono B7.out.size))
    replace TB := Lib.hid (TB.out.mono (Keep.below hB8))
    replace TC := Lib.hid (TC.out.mono (Keep.below hB8))
    have hc9 := Lib.hid (locks_any _ _ LB LB w8 noM noM TB.out TC.out pb.out.g.1 pb.out.g.2)
    rw [decide_eq_true rfl] at hc9
    clear hd8 hB8 hc8
    go_wp2_with fail
    ((with_reducible refine hc9.out.mono ?_); rintro e w9 ⟨rfl, hB9⟩)
    have B9 := Lib.hid (B8.out.trans (hB9.mono B8.out.size))
    replace TB := Lib.hid (TB.out.mono (Keep.below hB9))
    replace TD := Lib.hid (TD.out.mono (Keep.below hB9))
    have hc10 := Lib.hid (locks_any _ _ LB LB w9 noM noM TB.out TD.out pb.out.g.1 pb.out.g.2)
    rw [decide_eq_true rfl] at hc10
    clear hB9 hc9 TC
    go_wp2_with fail
    ((with_reducible refine hc10.out.mono ?_); rintro e w10 ⟨rfl, hB10⟩)
    have B10 := Lib.hid (B9.out.trans (hB10.mono B9.out.size))
    replace TB := Lib.hid (TB.out.mono (Keep.below hB10))
    have hc11 := Lib.hid (apart_any _ _ LB l lba w10 noM noM TB.out (H.out.mono (Keep.below B10.out)) pb.out.1 HSM.out.1 pb.out.g.2)
    rw [decide_eq_true (show offL LB lba = offL l lba from PB.out.2.2.2)] at hc11
    clear hB10 hc10 TD
    go_wp2_with fail
    ((with_reducible refine hc11.out.mono ?_); rintro e w11 ⟨rfl, hB11⟩)
    have B11 := Lib.hid (B10.out.trans (hB11.mono B10.out.size))
    clear hB11 hc11 TB
    go_wp2_with fail
    ((with_reducible refine (wakes_any w11).mono ?_); rintro e w20 ⟨rfl, hB20⟩)
    have B20 := Lib.hid (B11.out.trans (hB20.mono B11.out.size))
    clear hB20
    go_wp2
    go_ret
    exact ⟨rfl, B20.out⟩
  · have eb' : (EB == 0) = false := by simpa using eb
    have eb'' : (EB != 0) = true := by simpa using eb
    by_cases ea : EA = 0
    · have PA := Lib.hid (ra.out ea)
      subst ea
      clear ra rb rc eb
      go_enter Try.func5, Try.ntmps5
      go_wp2_with (go_at_call 6; go_must (refine hhv.out.mono ?_); rintro e w' ⟨rfl, rfl⟩)
      ((with_reducible refine hrl.out.mono ?_); rintro e w1 ⟨rfl, hB1⟩)
      have B1 := Lib.hid hB1
      clear hB1 hrl
      have hc2 := Lib.hid (read_any _ l id lba w1 noM (H.out.mono (Keep.below B1.out)) HSM.out.1 HSM.out.g.2 HBD.out hx1)
      rw [q1.out] at hc2
      go_wp2_with fail
      ((with_reducible refine hc2.out.mono ?_); rintro e w2 ⟨r2, rfl, hd2, hB2⟩)
      obtain ⟨A2, c2, rfl⟩ := hd2.form
      have TA := Lib.hid (hd2.sl (M := noM) (fun _ _ h => h))
      have B2 := Lib.hid (B1.out.trans (hB2.mono B1.out.size))
      have hc3 := Lib.hid (write_any _ l id lba w2 noM (H.out.mono (Keep.below B2.out)) HSM.out.1 HSM.out.g.2 HBD.out hx1)
      rw [q2.out] at hc3
      clear hd2 hB2 hc2
      go_wp2_with fail
      ((with_reducible refine hc3.out.mono ?_); rintro e w3 ⟨r3, rfl, hd3, hB3⟩)
      obtain ⟨A3, c3, rfl⟩ := hd3.form
      have TB := Lib.hid (hd3.sl (M := noM) (fun _ _ h => h))
      replace TA := Lib.hid (TA.out.mono (Keep.below hB3))
      have B3 := Lib.hid (B2.out.trans (hB3.mono B2.out.size))
      clear hd3 hB3 hc3
      have hc4 := Lib.hid (read_any _ LA id lba w3 noM TA.out pa.out.1 pa.out.g.2 PA.out.1 hx1)
      rw [PA.out.2.1] at hc4
      go_wp2_with fail
      ((with_reducible refine hc4.out.mono ?_); rintro e w4 ⟨r4, rfl, hd4, hB4⟩)
      obtain ⟨A4, c4, rfl⟩ := hd4.form
      have B4 := Lib.hid (B3.out.trans (hB4.mono B3.out.size))
      replace TA := Lib.hid (TA.out.mono (Keep.below hB4))
      replace TB := Lib.hid (TB.out.mono (Keep.below hB4))
      have hc5 := Lib.hid (locks_any _ _ LA LA w4 noM noM TA.out (hd4.sl (fun _ _ h => h)) pa.out.g.1 pa.out.g.2)
      rw [decide_eq_true rfl] at hc5
      clear hd4 hB4 hc4
      go_wp2_with fail
      ((with_reducible refine hc5.out.mono ?_); rintro e w5 ⟨rfl, hB5⟩)
      have B5 := Lib.hid (B4.out.trans (hB5.mono B4.out.size))
      replace TA := Lib.hid (TA.out.mono (Keep.below hB5))
      replace TB := Lib.hid (TB.out.mono (Keep.below hB5))
      have hc6 := Lib.hid (apart_any _ _ LA l lba w5 noM noM TA.out (H.out.mono (Keep.below B5.out)) pa.out.1 HSM.out.1 pa.out.g.2)
      rw [decide_eq_true (show offL LA lba = offL l lba from PA.out.2.2)] at hc6
      clear hB5 hc5
      go_wp2_with fail
      ((with_reducible refine hc6.out.mono ?_); rintro e w6 ⟨rfl, hB6⟩)
      have B6 := Lib.hid (B5.out.trans (hB6.mono B5.out.size))
      replace TB := Lib.hid (TB.out.mono (Keep.below hB6))
      clear hB6 hc6 TA
      go_wp2_with fail
      ((with_reducible refine (wakes_any w6).mono ?_); rintro e w20 ⟨rfl, hB20⟩)
      have B20 := Lib.hid (B6.out.trans (hB20.mono B6.out.size))
      clear hB20
      go_wp2
      go_ret
      exact ⟨rfl, B20.out⟩
    · have ea' : (EA == 0) = false := by simpa using ea
      clear ra rb rc eb ea
      go_enter Try.func5, Try.ntmps5
      go_wp2_with (go_at_call 6; go_must (refine hhv.out.mono ?_); rintro e w' ⟨rfl, rfl⟩)
      ((with_reducible refine hrl.out.mono ?_); rintro e w1 ⟨rfl, hB1⟩)
      have B1 := Lib.hid hB1
      clear hB1 hrl
      have hc2 := Lib.hid (read_any _ l id lba w1 noM (H.out.mono (Keep.below B1.out)) HSM.out.1 HSM.out.g.2 HBD.out hx1)
      rw [q1.out] at hc2
      go_wp2_with fail
      ((with_reducible refine hc2.out.mono ?_); rintro e w2 ⟨r2, rfl, hd2, hB2⟩)
      obtain ⟨A2, c2, rfl⟩ := hd2.form
      have TA := Lib.hid (hd2.sl (M := noM) (fun _ _ h => h))
      have B2 := Lib.hid (B1.out.trans (hB2.mono B1.out.size))
      have hc3 := Lib.hid (write_any _ l id lba w2 noM (H.out.mono (Keep.below B2.out)) HSM.out.1 HSM.out.g.2 HBD.out hx1)
      rw [q2.out] at hc3
      clear hd2 hB2 hc2
      go_wp2_with fail
      ((with_reducible refine hc3.out.mono ?_); rintro e w3 ⟨r3, rfl, hd3, hB3⟩)
      obtain ⟨A3, c3, rfl⟩ := hd3.form
      have TB := Lib.hid (hd3.sl (M := noM) (fun _ _ h => h))
      replace TA := Lib.hid (TA.out.mono (Keep.below hB3))
      have B3 := Lib.hid (B2.out.trans (hB3.mono B2.out.size))
      clear hd3 hB3 hc3
      go_wp2_with fail
      ((with_reducible refine (wakes_any w3).mono ?_); rintro e w20 ⟨rfl, hB20⟩)
      have B20 := Lib.hid (B3.out.trans (hB20.mono B3.out.size))
      clear hB20
      go_wp2
      go_ret
      exact ⟨rfl, B20.out⟩
end Go.Proofs.Ytombdkdidnoomaa
