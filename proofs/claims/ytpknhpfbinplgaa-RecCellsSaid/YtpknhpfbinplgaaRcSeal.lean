/-
Package geom: the address of a slot of the log. Package seal: a sector's bytes.
-/
import Derived.Test.YtpknhpfbinplgaaRfSum
namespace Go.Proofs.Ytpknhpfbinplgaa
open Go.RowKit
attribute [local go_sem ↓] Go.wp_at_zero Go.wp_at_succ

set_option maxHeartbeats 4000000 in
theorem told_any (g : Geo) (n : Int) (b : Bool) (w : World) : Calls Try.prog 63 #[gv g, .int .i64 n, .bool b] w fun e w' => e = .returned (if okG g && b then .tuple #[.int .i64 n, .int .i64 0] else .tuple #[.int .i64 0, .int .i64 1]) ∧ Below w.heap.size w w' := by
  obtain ⟨z, d, sp, sl, an⟩ := g
  have HB := Lib.hid ((Below.refl w.heap.size w).alloc (Nat.le_refl _) (.cells #[.int .i64 z, .int .i64 d, .int .i64 sp, .int .i64 sl, .int .i64 an] 23))
  have hgc := Lib.hid (gcheck_any ⟨z, d, sp, sl, an⟩ (w.alloc (.cells #[.int .i64 z, .int .i64 d, .int .i64 sp, .int .i64 sl, .int .i64 an] 23)))
  unfold gv errV at hgc
  unfold gv
  simp only at hgc ⊢
  cases hok : okG ⟨z, d, sp, sl, an⟩ with
  | false =>
    rw [hok] at hgc
    simp only [Bool.false_and, Bool.false_eq_true, if_false] at hgc ⊢
    clear hok
    go_enter Try.func63, Try.ntmps63
    go_wp2_with (go_at_call 33; go_must (with_reducible refine hgc.out.mono ?_); rintro e w1 ⟨rfl, hB1⟩)
    go_ret2
    exact ⟨rfl, HB.out.trans (hB1.mono HB.out.size)⟩
  | true =>
    rw [hok] at hgc
    clear hok
    cases b with
    | false =>
      simp only [if_true, Bool.and_false, Bool.false_eq_true, if_false] at hgc ⊢
      go_enter Try.func63, Try.ntmps63
      go_wp2_with (go_at_call 33; go_must (with_reducible refine hgc.out.mono ?_); rintro e w1 ⟨rfl, hB1⟩)
      go_ret2
      exact ⟨rfl, HB.out.trans (hB1.mono HB.out.size)⟩
    | true =>
      simp only [if_true, Bool.and_true] at hgc ⊢
      go_enter Try.func63, Try.ntmps63
      go_wp2_with (go_at_call 33; go_must (with_reducible refine hgc.out.mono ?_); rintro e w1 ⟨rfl, hB1⟩)
      go_ret2
      exact ⟨rfl, HB.out.trans (hB1.mono HB.out.size)⟩

/-- A sector's bytes. -/
def sealHead (addr stamp : Int) (p : List UInt8) : List UInt8 := ((UInt8.ofNat p.length :: p) ++ leB 2 addr.toNat) ++ leB 4 stamp.toNat
def sealB (addr stamp : Int) (p : List UInt8) : List UInt8 := sealHead addr stamp p ++ leB 4 (sumC (sealHead addr stamp p))
def okS (addr stamp : Int) (p : List UInt8) : Prop := 0 ≤ addr ∧ addr ≤ 65535 ∧ 0 ≤ stamp ∧ stamp ≤ 4294967295 ∧ p.length ≤ 96

set_option maxRecDepth 100000 in
set_option maxHeartbeats 8000000 in
theorem make_any (addr stamp : Int) (v : Value) (p : List UInt8) (w : World) (Mi : Ms) (h : SlR w Mi v p) (hok : okS addr stamp p) :
    Calls Try.prog 48 #[.agg #[.int .i64 addr, .int .i64 stamp, v]] w fun e w' => ∃ r, e = .returned (.tuple #[r, .int .i64 0]) ∧ OwR w' noM w.heap.size 5 r (sealB addr stamp p) ∧ Below w.heap.size w w' := by
  obtain ⟨a, c, rfl⟩ := h.form
  obtain ⟨h1, h2, h3, h4, h5⟩ := hok
  have h1' : ¬ addr < 0 := by omega
  have h2' : ¬ (65535 : Int) < addr := by omega
  have h3' : ¬ stamp < 0 := by omega
  have h4' : ¬ (4294967295 : Int) < stamp := by omega
  have h5' : ¬ (96 : Int) < p.length := by omega
  have hbA := (Below.refl w.heap.size w).alloc (Nat.le_refl _) (.cells #[.int .i64 addr, .int .i64 stamp, .slice a p.length c] 65)
  have HB := Lib.hid hbA
  have HQ := Lib.hid (Blk.new w 65 #[.int .i64 addr, .int .i64 stamp, .slice a p.length c])
  have hp1 := Lib.hid (part_any _ p (w.alloc (.cells #[.int .i64 addr, .int .i64 stamp, .slice a p.length c] 65)) noM noM (h.bare.mono (Keep.below hbA)) (by omega))
  obtain ⟨X1, hX1⟩ : ∃ X, X = UInt8.ofNat p.length :: p := ⟨_, rfl⟩
  rw [← hX1] at hp1
  have hl1 : X1.length ≤ 97 := by rw [hX1]; simp; omega
  have HX1 := Lib.hid hX1
  clear hX1 hbA h
  go_enter Try.func48, Try.ntmps48
  go_wp2_with fail
  ((with_reducible refine hp1.out.mono ?_); rintro e w1 ⟨r1, rfl, ho1, hB1⟩)
  have HB1 := Lib.hid (HB.out.trans (hB1.mono HB.out.size))
  have HQ1 := Lib.hid (HQ.out.below hB1)
  have hp2 := Lib.hid (put_any r1 X1 addr 2 w1 noM noM (ho1.sl (fun _ _ h => h)) (.inr (.inl rfl)) (by omega) h1 (by show addr < 65536; omega))
  obtain ⟨X2, hX2⟩ : ∃ X, X = X1 ++ leB (Int.toNat 2) addr.toNat := ⟨_, rfl⟩
  rw [← hX2] at hp2
  have hl2 : X2.length ≤ 99 := by rw [hX2, List.length_append, leB_len]; show _ + 2 ≤ _; omega
  have HX2 := Lib.hid hX2
  clear hX2 hB1 hp1 ho1 HB HQ
  obtain ⟨q1, q2, q3⟩ := HQ1.out.all
  go_wp2_with fail
  clear q1 q2 q3
  ((with_reducible refine hp2.out.mono ?_); rintro e w2 ⟨r2, rfl, ho2, hB2⟩)
  have HB2 := Lib.hid (HB1.out.trans (hB2.mono HB1.out.size))
  have HQ2 := Lib.hid (HQ1.out.below hB2)
  have hp3 := Lib.hid (put_any r2 X2 stamp 4 w2 noM noM (ho2.sl (fun _ _ h => h)) (.inr (.inr rfl)) (by omega) h3 (by show stamp < 4294967296; omega))
  obtain ⟨X3, hX3⟩ : ∃ X, X = X2 ++ leB (Int.toNat 4) stamp.toNat := ⟨_, rfl⟩
  rw [← hX3] at hp3
  have hl3 : X3.length ≤ 103 := by rw [hX3, List.length_append, leB_len]; show _ + 4 ≤ _; omega
  have HX3 := Lib.hid hX3
  clear hX3 hB2 hp2 ho2 HB1 HQ1
  obtain ⟨q1, q2, q3⟩ := HQ2.out.all
  go_wp2_with fail
  clear q1 q2 q3
  ((with_reducible refine hp3.out.mono ?_); rintro e w3 ⟨r3, rfl, ho3, hB3⟩)
  have HB3 := Lib.hid (HB2.out.trans (hB3.mono HB2.out.size))
  have hsm := Lib.hid (sumOf_any r3 X3 w3 noM (ho3.sl (fun _ _ h => h)))
  have hsl := sumC_le X3
  have hp4 := Lib.hid (put_any r3 X3 (sumC X3 : Nat) 4 w3 noM noM (ho3.sl (fun _ _ h => h)) (.inr (.inr rfl)) (by omega) (by omega) (by show ((sumC X3 : Nat) : Int) < 4294967296; omega))
  clear hB3 hp3 ho3 HB2 HQ2 hsl
  go_wp2_with fail
  ((with_reducible refine hsm.out.mono ?_); rintro e w4 ⟨rfl, rfl⟩)
  go_wp2_with fail
  ((with_reducible refine hp4.out.mono ?_); rintro e w5 ⟨r5, rfl, ho5, hB5⟩)
  have HX := Lib.hid (And.intro (ho5.mono_base (base' := w.heap.size) HB3.out.size) (HB3.out.trans (hB5.mono HB3.out.size)))
  clear ho5 hB5 hp4
  go_wp2
  go_ret2
  refine ⟨_, rfl, ?_, HX.out.2⟩
  have hf := HX.out.1
  rw [HX3.out, HX2.out, HX1.out] at hf
  exact hf
end Go.Proofs.Ytpknhpfbinplgaa
