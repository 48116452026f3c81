/-
Package rec: what a record has behind its numbers.
-/
import Derived.Test.YtpknhpfbinplgaaRcImage
namespace Go.Proofs.Ytpknhpfbinplgaa
open Go.RowKit
attribute [local go_sem ↓] Go.wp_at_zero Go.wp_at_succ

def numsB (r : Rc) : Bool := inB r.seq 0 4294967295 && (inB r.epoch 0 4294967295 && inB r.of_ 2 30)
/-- Is a record right (of a right geometry)? -/
def behOk (g : Geo) (r : Rc) : Bool :=
  if r.kind = 0 then r.seq == 0 && (r.epoch == 0 && (r.at_ == 0 && (r.of_ == 0 && noneB r.img)))
  else if r.kind = 1 then numsB r && (inB r.at_ 0 (r.of_ - 2) && imgOk g r.img)
  else if r.kind = 2 then numsB r && (r.at_ == r.of_ - 1 && noneB r.img)
  else false
def behV (r : Rc) (v : Value) : Value :=
  if r.kind = 0 then .nilIface
  else if r.kind = 1 then .iface 79 (.agg #[.int .i64 r.img.zone, .int .i64 r.img.what, v])
  else if r.kind = 2 then .iface 76 (.agg #[])
  else .nilIface
def rv (r : Rc) (v : Value) : Value := .agg #[.int .i64 r.kind, .int .i64 r.seq, .int .i64 r.epoch, .int .i64 r.at_, .int .i64 r.of_, .int .i64 r.img.zone, .int .i64 r.img.what, v]

set_option maxHeartbeats 8000000 in
theorem behind_any (g : Geo) (r : Rc) (v : Value) (w : World) (Mi : Ms) (h : SlR w Mi v r.img.bytes) (hl : r.img.bytes.length ≤ 100000) :
    Calls Try.prog 32 #[gv g, rv r v] w fun e w' => e = .returned (.tuple #[behV r v, .bool (behOk g r)]) ∧ Below w.heap.size w w' := by
  obtain ⟨kind, seq, epoch, at_, of_, ⟨zone, what, bytes⟩⟩ := r
  obtain ⟨z, d, sp, sl, an⟩ := g
  simp only at h hl
  obtain ⟨a, c, rfl⟩ := h.form
  unfold rv gv
  simp only
  have hb1 := (Below.refl w.heap.size w).alloc (Nat.le_refl _) (.cells #[.int .i64 z, .int .i64 d, .int .i64 sp, .int .i64 sl, .int .i64 an] 23)
  have hb2 := fun o => hb1.alloc (by simp) o
  have HB := Lib.hid hb2
  have hnone := fun w' => none_any ⟨zone, what, bytes⟩ a c w'
  by_cases hk0 : kind = 0
  · subst hk0
    have hV : Hid (behV ⟨0, seq, epoch, at_, of_, ⟨zone, what, bytes⟩⟩ (.slice a bytes.length c) = .nilIface) := Lib.hid (by simp [behV])
    have hE : Hid (behOk ⟨z, d, sp, sl, an⟩ ⟨0, seq, epoch, at_, of_, ⟨zone, what, bytes⟩⟩ = (seq == 0 && (epoch == 0 && (at_ == 0 && (of_ == 0 && noneB ⟨zone, what, bytes⟩))))) := Lib.hid (by simp [behOk])
    rw [hV.out, hE.out]
    cases hs : seq == 0 with
    | false =>
      go_enter Try.func32, Try.ntmps32
      go_wp2
      go_ret2
      exact ⟨rfl, HB.out _⟩
    | true =>
      obtain rfl : seq = 0 := by simpa using hs
      cases hp : epoch == 0 with
      | false =>
        go_enter Try.func32, Try.ntmps32
        go_wp2
        go_ret2
        exact ⟨rfl, HB.out _⟩
      | true =>
        obtain rfl : epoch = 0 := by simpa using hp
        cases ha : at_ == 0 with
        | false =>
          go_enter Try.func32, Try.ntmps32
          go_wp2
          go_ret2
          exact ⟨rfl, HB.out _⟩
        | true =>
          obtain rfl : at_ = 0 := by simpa using ha
          cases ho : of_ == 0 with
          | false =>
            go_enter Try.func32, Try.ntmps32
            go_wp2
            go_ret2
            exact ⟨rfl, HB.out _⟩
          | true =>
            obtain rfl : of_ = 0 := by simpa using ho
            clear hs hp ha ho
            simp only at hnone
            obtain ⟨bn, hbn⟩ : ∃ bn, bn = noneB ⟨zone, what, bytes⟩ := ⟨_, rfl⟩
            rw [← hbn] at hE hnone ⊢
            clear hbn hE hV
            go_enter Try.func32, Try.ntmps32
            go_wp2_with (go_at_call 58; go_must (with_reducible refine (hnone _).mono ?_); rintro e w1 ⟨rfl, hB1⟩)
            go_ret2
            exact ⟨rfl, (HB.out _).trans (hB1.mono (HB.out _).size)⟩
  · by_cases hk1 : kind = 1
    · subst hk1
      have hV : Hid (behV ⟨1, seq, epoch, at_, of_, ⟨zone, what, bytes⟩⟩ (.slice a bytes.length c) = .iface 79 (.agg #[.int .i64 zone, .int .i64 what, .slice a bytes.length c])) := Lib.hid (by simp [behV])
      have hE : Hid (behOk ⟨z, d, sp, sl, an⟩ ⟨1, seq, epoch, at_, of_, ⟨zone, what, bytes⟩⟩ = ((inB seq 0 4294967295 && (inB epoch 0 4294967295 && inB of_ 2 30)) && (inB at_ 0 (of_ - 2) && imgOk ⟨z, d, sp, sl, an⟩ ⟨zone, what, bytes⟩))) := Lib.hid (by simp [behOk, numsB])
      rw [hV.out, hE.out]
      have hin1 := fun w => rin_any seq 0 4294967295 w
      have hin2 := fun w => rin_any epoch 0 4294967295 w
      have hin3 := fun w => rin_any of_ 2 30 w
      cases hs : inB seq 0 4294967295 with
      | false =>
        rw [hs] at hin1
        clear hV hE hs
        go_enter Try.func32, Try.ntmps32
        go_wp2_with (go_at_call 41; go_must (first | (with_reducible refine (hin1 _).mono ?_)); rintro e w1 ⟨rfl, rfl⟩)
        go_ret2
        exact ⟨rfl, HB.out _⟩
      | true =>
        cases hp : inB epoch 0 4294967295 with
        | false =>
          rw [hs] at hin1
          rw [hp] at hin2
          clear hV hE hs hp
          go_enter Try.func32, Try.ntmps32
          go_wp2_with (go_at_call 41; go_must (first | (with_reducible refine (hin1 _).mono ?_) | (with_reducible refine (hin2 _).mono ?_)); rintro e w1 ⟨rfl, rfl⟩)
          go_ret2
          exact ⟨rfl, HB.out _⟩
        | true =>
          cases ho : inB of_ 2 30 with
          | false =>
            rw [hs] at hin1
            rw [hp] at hin2
            rw [ho] at hin3
            clear hV hE hs hp ho
            go_enter Try.func32, Try.ntmps32
            go_wp2_with (go_at_call 41; go_must (first | (with_reducible refine (hin1 _).mono ?_) | (with_reducible refine (hin2 _).mono ?_) | (with_reducible refine (hin3 _).mono ?_)); rintro e w1 ⟨rfl, rfl⟩)
            go_ret2
            exact ⟨rfl, HB.out _⟩
          | true =>
            obtain ⟨ho1, ho2⟩ := inB_iff.1 ho
            rw [hs] at hin1
            rw [hp] at hin2
            rw [ho] at hin3
            clear hV hE hs hp ho
            simp only [Bool.true_and]
            have hwo : IntKind.i64.wrap (of_ - 2) = of_ - 2 := by rw [IntKind.wrap_i64]; omega
            have hin4 := fun w => rin_any at_ 0 (of_ - 2) w
            cases ha : inB at_ 0 (of_ - 2) with
            | false =>
              rw [ha] at hin4
              clear ha
              go_enter Try.func32, Try.ntmps32
              go_wp2_with (go_at_call 41; go_must (first | (with_reducible refine (hin1 _).mono ?_) | (with_reducible refine (hin2 _).mono ?_) | (with_reducible refine (hin3 _).mono ?_) | (with_reducible refine (hin4 _).mono ?_)); rintro e w1 ⟨rfl, rfl⟩)
              go_ret2
              exact ⟨rfl, HB.out _⟩
            | true =>
              rw [ha] at hin4
              clear ha
              have hG := (Blk.new w 23 #[.int .i64 z, .int .i64 d, .int .i64 sp, .int .i64 sl, .int .i64 an]).alloc (.cells #[.int .i64 1, .int .i64 seq, .int .i64 epoch, .int .i64 at_, .int .i64 of_, .int .i64 zone, .int .i64 what, .slice a bytes.length c] 28)
              have hT := Blk.new (w.alloc (.cells #[.int .i64 z, .int .i64 d, .int .i64 sp, .int .i64 sl, .int .i64 an] 23)) 28 #[.int .i64 1, .int .i64 seq, .int .i64 epoch, .int .i64 at_, .int .i64 of_, .int .i64 zone, .int .i64 what, .slice a bytes.length c]
              simp only [World.size_alloc] at hT
              have him := Lib.hid (image_any ⟨z, d, sp, sl, an⟩ ⟨zone, what, bytes⟩ (.slice a bytes.length c) _ Mi (h.mono (Keep.below (HB.out (.cells #[.int .i64 1, .int .i64 seq, .int .i64 epoch, .int .i64 at_, .int .i64 of_, .int .i64 zone, .int .i64 what, .slice a bytes.length c] 28)))) hl)
              unfold gv errV at him
              simp only at him
              have HT := Lib.hid hT
              clear hG hT
              cases hb : imgOk ⟨z, d, sp, sl, an⟩ ⟨zone, what, bytes⟩ with
              | false =>
                rw [hb] at him
                clear hb
                go_enter Try.func32, Try.ntmps32
                go_wp2_with (go_at_call 41; go_must (first | (with_reducible refine (hin1 _).mono ?_) | (with_reducible refine (hin2 _).mono ?_) | (with_reducible refine (hin3 _).mono ?_) | (with_reducible refine (hin4 _).mono ?_)); rintro e w1 ⟨rfl, rfl⟩)
                ((with_reducible refine him.out.mono ?_); rintro e w1 ⟨rfl, hB1⟩)
                obtain ⟨t1, t2, t3⟩ := (HT.out.below hB1).all
                go_wp2
                go_ret2
                exact ⟨rfl, (HB.out _).trans (hB1.mono (HB.out _).size)⟩
              | true =>
                rw [hb] at him
                clear hb
                go_enter Try.func32, Try.ntmps32
                go_wp2_with (go_at_call 41; go_must (first | (with_reducible refine (hin1 _).mono ?_) | (with_reducible refine (hin2 _).mono ?_) | (with_reducible refine (hin3 _).mono ?_) | (with_reducible refine (hin4 _).mono ?_)); rintro e w1 ⟨rfl, rfl⟩)
                ((with_reducible refine him.out.mono ?_); rintro e w1 ⟨rfl, hB1⟩)
                obtain ⟨t1, t2, t3⟩ := (HT.out.below hB1).all
                go_wp2
                go_ret2
                exact ⟨rfl, (HB.out _).trans (hB1.mono (HB.out _).size)⟩
    · by_cases hk2 : kind = 2
      · subst hk2
        have hV : Hid (behV ⟨2, seq, epoch, at_, of_, ⟨zone, what, bytes⟩⟩ (.slice a bytes.length c) = .iface 76 (.agg #[])) := Lib.hid (by simp [behV])
        have hE : Hid (behOk ⟨z, d, sp, sl, an⟩ ⟨2, seq, epoch, at_, of_, ⟨zone, what, bytes⟩⟩ = ((inB seq 0 4294967295 && (inB epoch 0 4294967295 && inB of_ 2 30)) && (at_ == of_ - 1 && noneB ⟨zone, what, bytes⟩))) := Lib.hid (by simp [behOk, numsB])
        rw [hV.out, hE.out]
        have hin1 := fun w => rin_any seq 0 4294967295 w
        have hin2 := fun w => rin_any epoch 0 4294967295 w
        have hin3 := fun w => rin_any of_ 2 30 w
        cases hs : inB seq 0 4294967295 with
        | false =>
          rw [hs] at hin1
          clear hV hE hs
          go_enter Try.func32, Try.ntmps32
          go_wp2_with (go_at_call 41; go_must (first | (with_reducible refine (hin1 _).mono ?_)); rintro e w1 ⟨rfl, rfl⟩)
          go_ret2
          exact ⟨rfl, HB.out _⟩
        | true =>
          cases hp : inB epoch 0 4294967295 with
          | false =>
            rw [hs] at hin1
            rw [hp] at hin2
            clear hV hE hs hp
            go_enter Try.func32, Try.ntmps32
            go_wp2_with (go_at_call 41; go_must (first | (with_reducible refine (hin1 _).mono ?_) | (with_reducible refine (hin2 _).mono ?_)); rintro e w1 ⟨rfl, rfl⟩)
            go_ret2
            exact ⟨rfl, HB.out _⟩
          | true =>
            cases ho : inB of_ 2 30 with
            | false =>
              rw [hs] at hin1
              rw [hp] at hin2
              rw [ho] at hin3
              clear hV hE hs hp ho
              go_enter Try.func32, Try.ntmps32
              go_wp2_with (go_at_call 41; go_must (first | (with_reducible refine (hin1 _).mono ?_) | (with_reducible refine (hin2 _).mono ?_) | (with_reducible refine (hin3 _).mono ?_)); rintro e w1 ⟨rfl, rfl⟩)
              go_ret2
              exact ⟨rfl, HB.out _⟩
            | true =>
              obtain ⟨ho1, ho2⟩ := inB_iff.1 ho
              rw [hs] at hin1
              rw [hp] at hin2
              rw [ho] at hin3
              clear hV hE hs hp ho
              simp only [Bool.true_and]
              have hwo : IntKind.i64.wrap (of_ - 1) = of_ - 1 := by rw [IntKind.wrap_i64]; omega
              cases ha : at_ == of_ - 1 with
              | false =>
                go_enter Try.func32, Try.ntmps32
                go_wp2_with (go_at_call 41; go_must (first | (with_reducible refine (hin1 _).mono ?_) | (with_reducible refine (hin2 _).mono ?_) | (with_reducible refine (hin3 _).mono ?_)); rintro e w1 ⟨rfl, rfl⟩)
                go_ret2
                exact ⟨rfl, HB.out _⟩
              | true =>
                obtain rfl : at_ = of_ - 1 := by simpa using ha
                clear ha
                simp only at hnone
                obtain ⟨bn, hbn⟩ : ∃ bn, bn = noneB ⟨zone, what, bytes⟩ := ⟨_, rfl⟩
                rw [← hbn] at hnone ⊢
                clear hbn
                go_enter Try.func32, Try.ntmps32
                go_wp2_with (go_at_call 41; go_must (first | (with_reducible refine (hin1 _).mono ?_) | (with_reducible refine (hin2 _).mono ?_) | (with_reducible refine (hin3 _).mono ?_)); rintro e w1 ⟨rfl, rfl⟩)
                ((with_reducible refine (hnone _).mono ?_); rintro e w1 ⟨rfl, hB1⟩)
                go_wp2
                go_ret2
                exact ⟨rfl, (HB.out _).trans (hB1.mono (HB.out _).size)⟩
      · have hV : Hid (behV ⟨kind, seq, epoch, at_, of_, ⟨zone, what, bytes⟩⟩ (.slice a bytes.length c) = .nilIface) := Lib.hid (by simp [behV, hk0, hk1, hk2])
        have hE : Hid (behOk ⟨z, d, sp, sl, an⟩ ⟨kind, seq, epoch, at_, of_, ⟨zone, what, bytes⟩⟩ = false) := Lib.hid (by simp [behOk, hk0, hk1, hk2])
        rw [hV.out, hE.out]
        have k0 : (kind == 0) = false := by simpa using hk0
        have k1 : (kind == 1) = false := by simpa using hk1
        have k2 : (kind == 2) = false := by simpa using hk2
        clear hk0 hk1 hk2 hV hE
        have hin1 := fun w => rin_any seq 0 4294967295 w
        have hin2 := fun w => rin_any epoch 0 4294967295 w
        have hin3 := fun w => rin_any of_ 2 30 w
        go_enter Try.func32, Try.ntmps32
        go_wp2_with (go_at_call 41; go_must (first | (with_reducible refine (hin1 _).mono ?_) | (with_reducible refine (hin2 _).mono ?_) | (with_reducible refine (hin3 _).mono ?_)); rintro e w1 ⟨rfl, rfl⟩)
        all_goals
          go_ret2
          exact ⟨rfl, HB.out _⟩
end Go.Proofs.Ytpknhpfbinplgaa
