/-
The walk of the law LockAlone.
-/
import Derived.Test.YtombdkdidnoomaaLOth
import Derived.Test.YtombdkdidnoomaaLExact
namespace Go.Proofs.Ytombdkdidnoomaa
open Go.RowKit
attribute [local go_sem ↓] Go.wp_at_zero Go.wp_at_succ

structure Tr where
  a : Int
  b : Int
  c : Int
instance : Rp Tr where
  sz := 3
  agg := true
  pos := by omega
  E := fun _ _ cs x => cs = [.int .i64 x.a, .int .i64 x.b, .int .i64 x.c]
  len := fun h => by rw [h]; rfl
  one := fun h u hu => by rw [h] at hu; simp at hu; rcases hu with rfl | rfl | rfl <;> rfl
  mono := fun _ h => h
theorem tr_at {w : World} {M : Ms} {a : Option Addr} {n c k : Nat} {l : List Tr} (h : SlR w M (.slice a n c) l) (hk : k < l.length) : ∃ b off, a = some ⟨b, off, none⟩ ∧ w.cell? ⟨b, off + k * 3, none⟩ = some (.int .i64 l[k].a) ∧
    w.cell? ⟨b, off + k * 3 + 1, none⟩ = some (.int .i64 l[k].b) ∧ w.cell? ⟨b, off + k * 3 + 2, none⟩ = some (.int .i64 l[k].c) := by
  obtain ⟨b, off, cs, rfl, hm, he, hc⟩ := h.at_ hk
  have he : cs = [.int .i64 l[k].a, .int .i64 l[k].b, .int .i64 l[k].c] := he
  subst he
  exact ⟨b, off, rfl, hc 0 _ rfl, hc 1 _ rfl, hc 2 _ rfl⟩
theorem um5 (z : Int) : ∃ a : Int, IntKind.i64.wrap ((IntKind.u64.wrap z).tmod 5) = a ∧ 0 ≤ a ∧ a < 5 := by
  have h0 : 0 ≤ IntKind.u64.wrap z := by rw [IntKind.wrap_u64]; omega
  refine ⟨_, rfl, ?_⟩
  rw [Int.tmod_eq_emod_of_nonneg h0, IntKind.wrap_i64]
  omega
theorem um7 (z : Int) : ∃ a : Int, IntKind.i64.wrap ((IntKind.u64.wrap z).tmod 7) = a ∧ 0 ≤ a ∧ a < 7 := by
  have h0 : 0 ≤ IntKind.u64.wrap z := by rw [IntKind.wrap_u64]; omega
  refine ⟨_, rfl, ?_⟩
  rw [Int.tmod_eq_emod_of_nonneg h0, IntKind.wrap_i64]
  omega

theorem oneL_wo {x : Lk} (h : oneL x = true) : ¬ (0 : Int) ≤ x.writer ∨ ((0 : Int) ≤ x.writer ∧ x.reads.length = 0) := by
  simp only [oneL, Bool.and_eq_true, decide_eq_true_eq] at h
  obtain ⟨_, h4⟩ := h
  by_cases hw : (0 : Int) ≤ x.writer
  · right
    refine ⟨hw, ?_⟩
    have hb : (x.writer != -1) = true := by simp; omega
    rw [hb] at h4
    by_cases h9 : 0 < x.reads.length
    · rw [decide_eq_true h9] at h4; cases h4
    · omega
  · exact .inl hw

set_option maxRecDepth 100000 in
set_option maxHeartbeats 16000000 in
theorem lalone_any (v : Value) (l : List Tr) (w : World) (h : SlR w noM v l) :
    Calls Try.prog 4 #[v] w fun e w' => e = .returned (.bool true) ∧ Below w.heap.size w w' := by
  obtain ⟨a, c, rfl⟩ := h.form
  obtain ⟨-, hc1, hc2⟩ := h.cap
  have H := Lib.hid h
  clear h
  by_cases h120 : 120 < l.length
  · have h120' : (120 : Int) < l.length := by omega
    go_enter Try.func4, Try.ntmps4
    go_wp2
    go_ret
    exact ⟨rfl, Below.refl _ _⟩
  have h120' : ¬ (120 : Int) < l.length := by omega
  go_enter Try.func4, Try.ntmps4
  go_wp2
  clear h120'
  go_loopg [3, 4] l.length (fun g s3 s4 wr => ∃ i : Nat, s4 = .int .i64 i ∧ i ≤ l.length ∧ l.length - i ≤ g ∧ Hid (∃ now, Below w.heap.size w wr ∧ SlR wr noM s3 now ∧ InvL now))
  case atStart => exact ⟨0, rfl, Nat.zero_le _, by omega, Lib.hid ⟨[], Below.refl _ _, sl_nil _ _ _ (by simp [maxLen]), InvL.nil⟩⟩
  case round =>
    obtain ⟨i, rfl, hil, hg, hI⟩ := hrel
    by_cases hlt : i < l.length
    · obtain ⟨now, hB, hN, hInv⟩ := hI.out
      obtain ⟨an, cn, rfl⟩ := hN.form
      obtain ⟨b1, o1, rfl, x1, x2, x3⟩ := tr_at (H.out.mono (Keep.below hB)) hlt
      have hlt' : (i : Int) < l.length := by omega
      have HB := Lib.hid hB.drew
      have HN := Lib.hid (hN.mono (Keep.below (below_drew wr)))
      have HV := Lib.hid hInv
      have hS := Lib.hid (show wr.drew.cell? ⟨b1, o1 + i * 3, none⟩ = some (.int .i64 l[i].a) ∧ wr.drew.cell? ⟨b1, o1 + i * 3 + 1, none⟩ = some (.int .i64 l[i].b) from ⟨x1, x2⟩)
      have x4 := Lib.hid (show wr.drew.cell? ⟨b1, o1 + i * 3 + 2, none⟩ = some (.int .i64 l[i].c) from x3)
      obtain ⟨id, hid, hid0, hid5⟩ := um5 l[i].a
      obtain ⟨lba, hlb, hlb0, hlb7⟩ := um7 l[i].b
      have Hid1 := Lib.hid hid
      have Hlb1 := Lib.hid hlb
      clear hI hB hN hInv x1 x2 x3 hid hlb
      go_wp2_with fail
      refine rp_enter [4, 12] (fun w' => w'.cell? ⟨b1, o1 + i * 3, none⟩ = some (.int .i64 l[i].a) ∧ w'.cell? ⟨b1, o1 + i * 3 + 1, none⟩ = some (.int .i64 l[i].b)) (by kernel_rfl) ?_
      generalize wr.drew = wd at *
      apply rp_pure 0 rfl (by kernel_rfl) (fun _ _ _ h => h) rfl
      · (intro W; go_simp; try rfl)
      · (go_simp; try rfl)
      apply rp_pure 1 rfl (by kernel_rfl) (fun _ _ _ h => h) rfl
      · (intro W; go_simp; try rfl)
      · (go_simp; try rfl)
      apply rp_pure 2 rfl (by kernel_rfl) (fun _ _ _ h => h) rfl
      · (intro W; go_simp; try rfl)
      · (go_simp; try rfl)
      apply rp_pure 3 rfl (by kernel_rfl) (fun _ _ _ h => h) rfl
      · (intro W; go_simp; try rfl)
      · (go_simp; try rfl)
      apply rp_take 4 rfl (by kernel_rfl) (fun _ _ _ h => h) (hS.out) rfl
      · (rintro W ⟨s0, s1⟩; go_simp; try rfl)
      · (go_simp; try rfl)
      apply rp_pure 5 rfl (by kernel_rfl) (fun _ _ _ h => h) rfl
      · (intro W; go_simp; try rfl)
      · (go_simp; try rfl)
      apply rp_pure 6 rfl (by kernel_rfl) (fun _ _ _ h => h) rfl
      · (intro W; go_simp; try rfl)
      · (go_simp; try rfl)
      apply rp_pure 7 rfl (by kernel_rfl) (fun _ _ _ h => h) rfl
      · (intro W; go_simp; try rfl)
      · (go_simp; try rfl)
      apply rp_pure 8 rfl (by kernel_rfl) (fun _ _ _ h => h) rfl
      · (intro W; go_simp; try rfl)
      · (go_simp; try rfl)
      apply rp_pure 9 rfl (by kernel_rfl) (fun _ _ _ h => h) rfl
      · (intro W; go_simp; try rfl)
      · (go_simp; try rfl)
      apply rp_pure 10 rfl (by kernel_rfl) (fun _ _ _ h => h) rfl
      · (intro W; go_simp; try rfl)
      · (go_simp; try rfl)
      apply rp_pure 11 rfl (by kernel_rfl) (fun _ _ _ h => h) rfl
      · (intro W; go_simp; try rfl)
      · (go_simp; try rfl)
      apply rp_take 12 rfl (by kernel_rfl) (fun _ _ _ h => h) (hS.out) rfl
      · (rintro W ⟨s0, s1⟩; go_simp; try rfl)
      · (go_simp; try rfl)
      apply rp_pure 13 rfl (by kernel_rfl) (fun _ _ _ h => h) rfl
      · (intro W; go_simp; try rfl)
      · (go_simp; try rfl)
      apply rp_pure 14 rfl (by kernel_rfl) (fun _ _ _ h => h) rfl
      · (intro W; go_simp; try rfl)
      · (go_simp; try rfl)
      apply rp_pure 15 rfl (by kernel_rfl) (fun _ _ _ h => h) rfl
      · (intro W; go_simp; try rfl)
      · (go_simp; try rfl)
      apply rp_pure 16 rfl (by kernel_rfl) (fun _ _ _ h => h) rfl
      · (intro W; go_simp; try rfl)
      · (go_simp; try rfl)
      apply rp_pure 17 rfl (by kernel_rfl) (fun _ _ _ h => h) rfl
      · (intro W; go_simp; try rfl)
      · (go_simp; try rfl)
      refine rp_done (by kernel_rfl) ?_
      rw [Hid1.out, Hlb1.out]
      cases hd0 : ((IntKind.u64.wrap l[i].c).tmod 5 == 0) with
      | true =>
        have x5 := x4.out
        have hc2 := Lib.hid (drop_any _ now id wd noM HN.out (by have := HV.out.len; omega) (fun y hy => by have := HV.out.rd hy; omega))
        have hq : dropL now id = (dropF now id, 0) := by unfold dropL; rw [if_neg (by rw [HV.out.1]; simp; omega)]
        have hal := Lib.hid (drop_alone HV.out hid0)
        rw [hq] at hc2
        clear hq
        obtain ⟨X, hX⟩ : ∃ X, X = dropF now id := ⟨_, rfl⟩
        rw [← hX] at hc2 hal
        clear hX
        go_wp2_with fail
        ((with_reducible refine hc2.out.mono ?_); rintro e w2 ⟨r2, rfl, hd2, hB2⟩)
        obtain ⟨A2, c2, rfl⟩ := hd2.form
        have S2 := Lib.hid (hd2.sl (M := noM) (fun _ _ h => h))
        have B2 := Lib.hid (HB.out.trans (hB2.mono HB.out.size))
        have HX := Lib.hid hal.out.1
        have HY := Lib.hid hal.out.2
        have hXl0 : X.length ≤ 7 := HX.out.len
        clear hd2 hB2 hc2 hal
        go_wp2_with fail
        go_loopg [9] X.length (fun g2 s9 wr' => ∃ k : Nat, s9 = .int .i64 k ∧ k ≤ X.length ∧ X.length - k ≤ g2 ∧ wr' = w2)
        case atStart => exact ⟨0, rfl, Nat.zero_le _, by omega, rfl⟩
        case round =>
          obtain ⟨k, rfl, hkl, hg2, rfl⟩ := hrel
          by_cases hlk : k < X.length
          · obtain ⟨b2, o2, A9, C9, e9, -, y1, y2, y3, s9⟩ := lk_at S2.out hlk
            subst e9
            have hlk' : (k : Int) < X.length := by omega
            have hne : (X[k].writer == id) = false := by simpa using (HY.out _ (List.getElem_mem hlk)).1
            have hh := Lib.hid (has_any _ X[k].reads id wr noM s9 (by have := HX.out.rd (List.getElem_mem hlk); omega))
            rw [has_miss (fun j hj => (HY.out _ (List.getElem_mem hlk)).2 _ (List.getElem_mem hj))] at hh
            clear s9
            go_wp2_with (go_at_call 18; go_must (refine hh.out.mono ?_); rintro e w' ⟨rfl, rfl⟩)
            go_roundg (X.length - (k + 1))
            case measure => omega
            case rel => exact ⟨k + 1, by go_num, by omega, by omega, rfl⟩
          · have hlk' : ¬ (k : Int) < X.length := by omega
            clear hlk hkl hg2
            have hck := Lib.hid (check_any _ X wr noM S2.out (by have := HX.out.len; omega) (fun y hy => by have := HX.out.rd hy; omega))
            rw [HX.out.1, show errL true = 0 from rfl] at hck
            go_wp2_with fail
            ((with_reducible refine hck.out.mono ?_); rintro e w5 ⟨rfl, hB5⟩)
            have S5 := Lib.hid (S2.out.mono (Keep.below hB5))
            have B5 := Lib.hid (B2.out.trans (hB5.mono B2.out.size))
            have hXl : X.length ≤ 7 := HX.out.len
            clear hB5 hck
            go_wp2_with fail
            go_loopg [12] X.length (fun g2 s12 wr' => ∃ k : Nat, s12 = .int .i64 k ∧ k ≤ X.length ∧ X.length - k ≤ g2 ∧ wr' = w5)
            case atStart => exact ⟨0, rfl, Nat.zero_le _, by omega, rfl⟩
            case round =>
              obtain ⟨k, rfl, hkl, hg2, rfl⟩ := hrel
              by_cases hlk : k < X.length
              · obtain ⟨b2, o2, A9, C9, e9, -, y1, y2, y3, -⟩ := lk_at S5.out hlk
                subst e9
                have hlk' : (k : Int) < X.length := by omega
                have hone := okL_all HX.out.1 _ (List.getElem_mem hlk)
                have hwr := oneL_wo hone
                clear hone
                rcases hwr with hw0 | ⟨hw0, hw1⟩
                · have hw0' : decide ((0 : Int) ≤ X[k].writer) = false := decide_eq_false hw0
                  clear hw0
                  go_wp2
                  go_roundg (X.length - (k + 1))
                  case measure => omega
                  case rel => exact ⟨k + 1, by go_num, by omega, by omega, rfl⟩
                · have hw1' : ¬ (0 : Int) < X[k].reads.length := by omega
                  clear hw1
                  go_wp2
                  go_roundg (X.length - (k + 1))
                  case measure => omega
                  case rel => exact ⟨k + 1, by go_num, by omega, by omega, rfl⟩
              · have hlk' : ¬ (k : Int) < X.length := by omega
                have hfin := Lib.hid (show ∃ now', Below w.heap.size w wr ∧ SlR wr noM (.slice A2 X.length c2) now' ∧ InvL now' from ⟨X, B5.out, S5.out, HX.out⟩)
                go_wp2
                go_roundg (l.length - (i + 1))
                case measure => omega
                case rel => exact ⟨i + 1, by go_num, by omega, by omega, hfin⟩
      | false =>
      cases hd1 : ((IntKind.u64.wrap l[i].c).tmod 5 == 1) with
      | true =>
        have x5 := x4.out
        have hc2 := Lib.hid (write_any _ now id lba wd noM HN.out (by have := HV.out.len; omega) (fun y hy => by have := HV.out.rd hy; omega) HV.out.bd (by show lba ≤ 9223372036854775807; omega))
        have hal := Lib.hid (write_alone HV.out hid0 hid5 hlb0 hlb7)
        obtain ⟨X, E, q1⟩ : ∃ X E, writeL now id lba = (X, E) := ⟨_, _, rfl⟩
        rw [q1] at hc2 hal
        clear q1
        go_wp2_with fail
        ((with_reducible refine hc2.out.mono ?_); rintro e w2 ⟨r2, rfl, hd2, hB2⟩)
        obtain ⟨A2, c2, rfl⟩ := hd2.form
        have S2 := Lib.hid (hd2.sl (M := noM) (fun _ _ h => h))
        have B2 := Lib.hid (HB.out.trans (hB2.mono HB.out.size))
        have N2 := Lib.hid (HN.out.mono (Keep.below hB2))
        have hot := Lib.hid (others_any _ now id lba true w2 noM N2.out (by have := HV.out.len; omega) (fun y hy => by have := HV.out.rd hy; omega))
        clear hd2 hB2 hc2
        rcases hal.out with ⟨ho, hE⟩ | ⟨ho, hE, hX⟩
        · rw [ho] at hot
          have hE' : E = 22 := hE
          subst hE'
          have hfin := Lib.hid (show ∃ now', Below w.heap.size w w2 ∧ SlR w2 noM (.slice an now.length cn) now' ∧ InvL now' from ⟨now, B2.out, N2.out, HV.out⟩)
          clear hal ho hE
          go_wp2_with (go_at_call 19; go_must (refine hot.out.mono ?_); rintro e w' ⟨rfl, rfl⟩)
          go_roundg (l.length - (i + 1))
          case measure => omega
          case rel => exact ⟨i + 1, by go_num, by omega, by omega, hfin⟩
        · rw [ho] at hot
          have hE' : E = 0 := hE
          subst hE'
          have HX := Lib.hid (show InvL X from hX)
          clear hal ho hE hX
          go_wp2_with (go_at_call 19; go_must (refine hot.out.mono ?_); rintro e w' ⟨rfl, rfl⟩)
          have hck := Lib.hid (check_any _ X w2 noM S2.out (by have := HX.out.len; omega) (fun y hy => by have := HX.out.rd hy; omega))
          rw [HX.out.1, show errL true = 0 from rfl] at hck
          go_wp2_with fail
          ((with_reducible refine hck.out.mono ?_); rintro e w5 ⟨rfl, hB5⟩)
          have S5 := Lib.hid (S2.out.mono (Keep.below hB5))
          have B5 := Lib.hid (B2.out.trans (hB5.mono B2.out.size))
          have hXl : X.length ≤ 7 := HX.out.len
          clear hB5 hck
          go_wp2_with fail
          go_loopg [12] X.length (fun g2 s12 wr' => ∃ k : Nat, s12 = .int .i64 k ∧ k ≤ X.length ∧ X.length - k ≤ g2 ∧ wr' = w5)
          case atStart => exact ⟨0, rfl, Nat.zero_le _, by omega, rfl⟩
          case round =>
            obtain ⟨k, rfl, hkl, hg2, rfl⟩ := hrel
            by_cases hlk : k < X.length
            · obtain ⟨b2, o2, A9, C9, e9, -, y1, y2, y3, -⟩ := lk_at S5.out hlk
              subst e9
              have hlk' : (k : Int) < X.length := by omega
              have hone := okL_all HX.out.1 _ (List.getElem_mem hlk)
              have hwr := oneL_wo hone
              clear hone
              rcases hwr with hw0 | ⟨hw0, hw1⟩
              · have hw0' : decide ((0 : Int) ≤ X[k].writer) = false := decide_eq_false hw0
                clear hw0
                go_wp2
                go_roundg (X.length - (k + 1))
                case measure => omega
                case rel => exact ⟨k + 1, by go_num, by omega, by omega, rfl⟩
              · have hw1' : ¬ (0 : Int) < X[k].reads.length := by omega
                clear hw1
                go_wp2
                go_roundg (X.length - (k + 1))
                case measure => omega
                case rel => exact ⟨k + 1, by go_num, by omega, by omega, rfl⟩
            · have hlk' : ¬ (k : Int) < X.length := by omega
              have hfin := Lib.hid (show ∃ now', Below w.heap.size w wr ∧ SlR wr noM (.slice A2 X.length c2) now' ∧ InvL now' from ⟨X, B5.out, S5.out, HX.out⟩)
              go_wp2
              go_roundg (l.length - (i + 1))
              case measure => omega
              case rel => exact ⟨i + 1, by go_num, by omega, by omega, hfin⟩
      | false =>
      cases hd2 : ((IntKind.u64.wrap l[i].c).tmod 5 == 2) with
      | true =>
        have x5 := x4.out
        have hc2 := Lib.hid (write_any _ now id lba wd noM HN.out (by have := HV.out.len; omega) (fun y hy => by have := HV.out.rd hy; omega) HV.out.bd (by show lba ≤ 9223372036854775807; omega))
        have hal := Lib.hid (write_alone HV.out hid0 hid5 hlb0 hlb7)
        obtain ⟨X, E, q1⟩ : ∃ X E, writeL now id lba = (X, E) := ⟨_, _, rfl⟩
        rw [q1] at hc2 hal
        clear q1
        go_wp2_with fail
        ((with_reducible refine hc2.out.mono ?_); rintro e w2 ⟨r2, rfl, hd2, hB2⟩)
        obtain ⟨A2, c2, rfl⟩ := hd2.form
        have S2 := Lib.hid (hd2.sl (M := noM) (fun _ _ h => h))
        have B2 := Lib.hid (HB.out.trans (hB2.mono HB.out.size))
        have N2 := Lib.hid (HN.out.mono (Keep.below hB2))
        have hot := Lib.hid (others_any _ now id lba true w2 noM N2.out (by have := HV.out.len; omega) (fun y hy => by have := HV.out.rd hy; omega))
        clear hd2 hB2 hc2
        rcases hal.out with ⟨ho, hE⟩ | ⟨ho, hE, hX⟩
        · rw [ho] at hot
          have hE' : E = 22 := hE
          subst hE'
          have hfin := Lib.hid (show ∃ now', Below w.heap.size w w2 ∧ SlR w2 noM (.slice an now.length cn) now' ∧ InvL now' from ⟨now, B2.out, N2.out, HV.out⟩)
          clear hal ho hE
          go_wp2_with (go_at_call 19; go_must (refine hot.out.mono ?_); rintro e w' ⟨rfl, rfl⟩)
          go_roundg (l.length - (i + 1))
          case measure => omega
          case rel => exact ⟨i + 1, by go_num, by omega, by omega, hfin⟩
        · rw [ho] at hot
          have hE' : E = 0 := hE
          subst hE'
          have HX := Lib.hid (show InvL X from hX)
          clear hal ho hE hX
          go_wp2_with (go_at_call 19; go_must (refine hot.out.mono ?_); rintro e w' ⟨rfl, rfl⟩)
          have hck := Lib.hid (check_any _ X w2 noM S2.out (by have := HX.out.len; omega) (fun y hy => by have := HX.out.rd hy; omega))
          rw [HX.out.1, show errL true = 0 from rfl] at hck
          go_wp2_with fail
          ((with_reducible refine hck.out.mono ?_); rintro e w5 ⟨rfl, hB5⟩)
          have S5 := Lib.hid (S2.out.mono (Keep.below hB5))
          have B5 := Lib.hid (B2.out.trans (hB5.mono B2.out.size))
          have hXl : X.length ≤ 7 := HX.out.len
          clear hB5 hck
          go_wp2_with fail
          go_loopg [12] X.length (fun g2 s12 wr' => ∃ k : Nat, s12 = .int .i64 k ∧ k ≤ X.length ∧ X.length - k ≤ g2 ∧ wr' = w5)
          case atStart => exact ⟨0, rfl, Nat.zero_le _, by omega, rfl⟩
          case round =>
            obtain ⟨k, rfl, hkl, hg2, rfl⟩ := hrel
            by_cases hlk : k < X.length
            · obtain ⟨b2, o2, A9, C9, e9, -, y1, y2, y3, -⟩ := lk_at S5.out hlk
              subst e9
              have hlk' : (k : Int) < X.length := by omega
              have hone := okL_all HX.out.1 _ (List.getElem_mem hlk)
              have hwr := oneL_wo hone
              clear hone
              rcases hwr with hw0 | ⟨hw0, hw1⟩
              · have hw0' : decide ((0 : Int) ≤ X[k].writer) = false := decide_eq_false hw0
                clear hw0
                go_wp2
                go_roundg (X.length - (k + 1))
                case measure => omega
                case rel => exact ⟨k + 1, by go_num, by omega, by omega, rfl⟩
              · have hw1' : ¬ (0 : Int) < X[k].reads.length := by omega
                clear hw1
                go_wp2
                go_roundg (X.length - (k + 1))
                case measure => omega
                case rel => exact ⟨k + 1, by go_num, by omega, by omega, rfl⟩
            · have hlk' : ¬ (k : Int) < X.length := by omega
              have hfin := Lib.hid (show ∃ now', Below w.heap.size w wr ∧ SlR wr noM (.slice A2 X.length c2) now' ∧ InvL now' from ⟨X, B5.out, S5.out, HX.out⟩)
              go_wp2
              go_roundg (l.length - (i + 1))
              case measure => omega
              case rel => exact ⟨i + 1, by go_num, by omega, by omega, hfin⟩
      | false =>
        have x5 := x4.out
        have hc2 := Lib.hid (read_any _ now id lba wd noM HN.out (by have := HV.out.len; omega) (fun y hy => by have := HV.out.rd hy; omega) HV.out.bd (by show lba ≤ 9223372036854775807; omega))
        have hal := Lib.hid (read_alone HV.out hid0 hid5 hlb0 hlb7)
        obtain ⟨X, E, q1⟩ : ∃ X E, readL now id lba = (X, E) := ⟨_, _, rfl⟩
        rw [q1] at hc2 hal
        clear q1
        go_wp2_with fail
        ((with_reducible refine hc2.out.mono ?_); rintro e w2 ⟨r2, rfl, hd2, hB2⟩)
        obtain ⟨A2, c2, rfl⟩ := hd2.form
        have S2 := Lib.hid (hd2.sl (M := noM) (fun _ _ h => h))
        have B2 := Lib.hid (HB.out.trans (hB2.mono HB.out.size))
        have N2 := Lib.hid (HN.out.mono (Keep.below hB2))
        have hot := Lib.hid (others_any _ now id lba false w2 noM N2.out (by have := HV.out.len; omega) (fun y hy => by have := HV.out.rd hy; omega))
        clear hd2 hB2 hc2
        rcases hal.out with ⟨ho, hE⟩ | ⟨ho, hE, hX⟩
        · rw [ho] at hot
          have hE' : E = 22 := hE
          subst hE'
          have hfin := Lib.hid (show ∃ now', Below w.heap.size w w2 ∧ SlR w2 noM (.slice an now.length cn) now' ∧ InvL now' from ⟨now, B2.out, N2.out, HV.out⟩)
          clear hal ho hE
          go_wp2_with (go_at_call 19; go_must (refine hot.out.mono ?_); rintro e w' ⟨rfl, rfl⟩)
          go_roundg (l.length - (i + 1))
          case measure => omega
          case rel => exact ⟨i + 1, by go_num, by omega, by omega, hfin⟩
        · rw [ho] at hot
          have hE' : E = 0 := hE
          subst hE'
          have HX := Lib.hid (show InvL X from hX)
          clear hal ho hE hX
          go_wp2_with (go_at_call 19; go_must (refine hot.out.mono ?_); rintro e w' ⟨rfl, rfl⟩)
          have hck := Lib.hid (check_any _ X w2 noM S2.out (by have := HX.out.len; omega) (fun y hy => by have := HX.out.rd hy; omega))
          rw [HX.out.1, show errL true = 0 from rfl] at hck
          go_wp2_with fail
          ((with_reducible refine hck.out.mono ?_); rintro e w5 ⟨rfl, hB5⟩)
          have S5 := Lib.hid (S2.out.mono (Keep.below hB5))
          have B5 := Lib.hid (B2.out.trans (hB5.mono B2.out.size))
          have hXl : X.length ≤ 7 := HX.out.len
          clear hB5 hck
          go_wp2_with fail
          go_loopg [12] X.length (fun g2 s12 wr' => ∃ k : Nat, s12 = .int .i64 k ∧ k ≤ X.length ∧ X.length - k ≤ g2 ∧ wr' = w5)
          case atStart => exact ⟨0, rfl, Nat.zero_le _, by omega, rfl⟩
          case round =>
            obtain ⟨k, rfl, hkl, hg2, rfl⟩ := hrel
            by_cases hlk : k < X.length
            · obtain ⟨b2, o2, A9, C9, e9, -, y1, y2, y3, -⟩ := lk_at S5.out hlk
              subst e9
              have hlk' : (k : Int) < X.length := by omega
              have hone := okL_all HX.out.1 _ (List.getElem_mem hlk)
              have hwr := oneL_wo hone
              clear hone
              rcases hwr with hw0 | ⟨hw0, hw1⟩
              · have hw0' : decide ((0 : Int) ≤ X[k].writer) = false := decide_eq_false hw0
                clear hw0
                go_wp2
                go_roundg (X.length - (k + 1))
                case measure => omega
                case rel => exact ⟨k + 1, by go_num, by omega, by omega, rfl⟩
              · have hw1' : ¬ (0 : Int) < X[k].reads.length := by omega
                clear hw1
                go_wp2
                go_roundg (X.length - (k + 1))
                case measure => omega
                case rel => exact ⟨k + 1, by go_num, by omega, by omega, rfl⟩
            · have hlk' : ¬ (k : Int) < X.length := by omega
              have hfin := Lib.hid (show ∃ now', Below w.heap.size w wr ∧ SlR wr noM (.slice A2 X.length c2) now' ∧ InvL now' from ⟨X, B5.out, S5.out, HX.out⟩)
              go_wp2
              go_roundg (l.length - (i + 1))
              case measure => omega
              case rel => exact ⟨i + 1, by go_num, by omega, by omega, hfin⟩
    · obtain rfl : i = l.length := by omega
      obtain ⟨now, hB, _⟩ := hI.out
      have HB := Lib.hid hB
      clear hI hB
      go_wp2_with fail
      ((with_reducible refine (wakes_any wr).mono ?_); rintro e w20 ⟨rfl, hB20⟩)
      have B20 := Lib.hid (HB.out.trans (hB20.mono HB.out.size))
      clear hB20
      go_wp2
      go_ret
      exact ⟨rfl, B20.out⟩
end Go.Proofs.Ytombdkdidnoomaa
