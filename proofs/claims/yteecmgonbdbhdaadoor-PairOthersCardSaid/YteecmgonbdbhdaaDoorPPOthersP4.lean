/-
Several texts in one.
-/
import Derived.Test.YteecmgonbdbhdaaDoorPPOthersP3
import Derived.Deep.DeepCutAuto
import Derived.Test.YteecmgonbdbhdaaDoorPPOthersP2
import Derived.Test.YteecmgonbdbhdaaDoorPPOthersP0
import Derived.ProofKit
import Derived.Deep.Slices
import Derived.Test.YteecmgonbdbhdaaDoorRows
import Derived.Below
import Derived.ChangeSame
import Derived.Carry
import Derived.Test.YteecmgonbdbhdaaDoorPPOthersP1
import Derived.OpenShut

/-
The reference's sum.
-/
section
namespace Go.Proofs.YteecmgonbdbhdaaDoor
open Go.RowKit
attribute [local go_sem ↓] Go.wp_at_zero Go.wp_at_succ

set_option maxHeartbeats 4000000 in
theorem rdown_any (N : Nat) (w : World) (hr : N < 4294967296) : Calls Tryd.prog 124 #[.int .i64 N] w fun e w' => e = .returned (.int .i64 (stepC N : Nat)) ∧ w' = w := by
  have hst := Lib.hid (show stepC N = N / 2 ^^^ (if N % 2 = 1 then polyN else 0) from rfl)
  have hdiv : ((N / 2 : Nat) : Int) = (N : Int) / 2 := by omega
  have hxor : bits .xor .i64 ((N : Int) / 2) 2197175160 = ((N / 2 ^^^ 2197175160 : Nat) : Int) := by rw [← hdiv]; exact i64_xor (N / 2) 2197175160 (by omega) (by omega)
  have hq : (N : Int).tdiv 2 = (N : Int) / 2 := Int.tdiv_eq_ediv_of_nonneg (by omega)
  have hrm : (N : Int).tmod 2 = ((N % 2 : Nat) : Int) := by rw [Int.tmod_eq_emod_of_nonneg (by omega)]; omega
  have hw : IntKind.i64.wrap ((N : Int) / 2) = (N : Int) / 2 := by rw [IntKind.wrap_i64]; omega
  have HD := Lib.hid hdiv
  rw [hst.out]
  clear hdiv
  rcases Nat.mod_two_eq_zero_or_one N with h2 | h2
  · rw [h2, if_neg (by omega), Nat.xor_zero, HD.out]
    rw [h2] at hrm
    have hrm0 : (N : Int).tmod 2 = 0 := hrm
    clear h2 hrm hxor hst
    go_enter Tryd.func124, Tryd.ntmps124
    go_wp2
    go_ret
    exact ⟨rfl, rfl⟩
  · rw [h2, if_pos rfl]
    rw [h2] at hrm
    have hrm1 : (N : Int).tmod 2 = 1 := hrm
    clear h2 hrm hst
    go_enter Tryd.func124, Tryd.ntmps124
    go_wp2
    go_ret
    exact ⟨rfl, rfl⟩

set_option maxHeartbeats 4000000 in
theorem reight_any (r : Nat) (w : World) (hr : r < 4294967296) : Calls Tryd.prog 121 #[.int .i64 r] w fun e w' => e = .returned (.int .i64 (eightC r : Nat)) ∧ w' = w := by
  have hE := Lib.hid (show eightC r = stepsC 8 r from rfl)
  rw [hE.out]
  go_enter Tryd.func121, Tryd.ntmps121
  go_wp2
  go_loopg [0, 3] 8 (fun gk s0 s3 wr => ∃ k : Nat, s3 = .int .i64 k ∧ k ≤ 8 ∧ 8 - k ≤ gk ∧ wr = w ∧ s0 = .int .i64 (stepsC k r : Nat))
  case atStart => exact ⟨0, rfl, by omega, by omega, rfl, rfl⟩
  case round =>
    obtain ⟨k, rfl, hkl, hgk, rfl, rfl⟩ := hrel
    by_cases hk : k < 8
    · have hk' : (k : Int) < 8 := by omega
      have hdn := Lib.hid (rdown_any (stepsC k r) wr (stepsC_lt k hr))
      rw [show stepC (stepsC k r) = stepsC (k + 1) r from rfl] at hdn
      go_wp2_with (go_at_call 124; go_must (with_reducible refine hdn.out.mono ?_); rintro e w1 ⟨rfl, rfl⟩)
      go_roundg (8 - (k + 1))
      case measure => omega
      case rel => exact ⟨k + 1, by go_num, by omega, by omega, rfl, rfl⟩
    · obtain rfl : k = 8 := by omega
      go_wp2
      go_ret
      exact ⟨rfl, rfl⟩

set_option maxHeartbeats 4000000 in
theorem rsum_any (v : Value) (b : List UInt8) (w : World) (Mi : Ms) (h : SlR w Mi v b) : Calls Tryd.prog 102 #[v] w fun e w' => e = .returned (.int .i64 (sumC b : Nat)) ∧ w' = w := by
  have hmo : Calls Tryd.prog 114 #[.int .i64 0, v] w fun e w' => e = .returned (.int .i64 (sumC b : Nat)) ∧ w' = w := by
    obtain ⟨a, c, rfl⟩ := h.form
    have hcap := h.cap
    have H := Lib.hid h.bare
    clear h
    go_enter Tryd.func114, Tryd.ntmps114
    go_wp2
    go_loopg [5, 6] b.length (fun gk s5 s6 wr => ∃ k : Nat, s6 = .int .i64 k ∧ k ≤ b.length ∧ b.length - k ≤ gk ∧ wr = w ∧ s5 = .int .i64 (foldC 4294967295 (b.take k) : Nat))
    case atStart => exact ⟨0, rfl, by omega, by omega, rfl, rfl⟩
    case round =>
      obtain ⟨k, rfl, hkl, hgk, rfl, rfl⟩ := hrel
      by_cases hk : k < b.length
      · have hk' : (k : Int) < b.length := by omega
        obtain ⟨bb, off, rfl, -, x1⟩ := u8_at H.out hk
        have hst := foldC_step (r := 4294967295) hk
        have hlt := foldC_lt (b.take k) (r := 4294967295) (by omega)
        obtain ⟨N, hN⟩ : ∃ N, N = foldC 4294967295 (b.take k) := ⟨_, rfl⟩
        rw [← hN] at hlt hst ⊢
        obtain ⟨y, hy⟩ : ∃ y, y = b[k].toNat := ⟨_, rfl⟩
        have hyl : y < 256 := by rw [hy]; exact b[k].toNat_lt
        rw [← hy] at x1 hst
        have hcy : IntKind.i64.wrap (y : Int) = y := by rw [IntKind.wrap_i64]; omega
        have hx1 : bits .xor .i64 (N : Int) (y : Int) = ((N ^^^ y : Nat) : Int) := i64_xor _ _ hlt (by omega)
        have hxl : N ^^^ y < 4294967296 := xor_lt hlt (by omega)
        obtain ⟨X, hX⟩ : ∃ X, X = N ^^^ y := ⟨_, rfl⟩
        rw [← hX] at hx1 hxl hst
        have hdn := Lib.hid (reight_any X wr hxl)
        rw [← hst] at hdn
        clear hN hy hX hst
        go_wp2_with (go_at_call 121; go_must (with_reducible refine hdn.out.mono ?_); rintro e w1 ⟨rfl, rfl⟩)
        go_roundg (b.length - (k + 1))
        case measure => omega
        case rel => exact ⟨k + 1, by go_num, by omega, by omega, rfl, rfl⟩
      · obtain rfl : k = b.length := by omega
        rw [List.take_length]
        have hlt := foldC_lt b (r := 4294967295) (by omega)
        have hE := Lib.hid (show ((sumC b : Nat) : Int) = 4294967295 - ((foldC 4294967295 b : Nat) : Int) by unfold sumC; omega)
        obtain ⟨N, hN⟩ : ∃ N, N = foldC 4294967295 b := ⟨_, rfl⟩
        rw [← hN] at hE hlt ⊢
        have hw : IntKind.i64.wrap (4294967295 - (N : Int)) = 4294967295 - (N : Int) := by rw [IntKind.wrap_i64]; omega
        clear hN
        go_wp2
        go_ret
        rw [hE.out]
        exact ⟨rfl, rfl⟩
  have hm := Lib.hid hmo
  obtain ⟨a, c, rfl⟩ := h.form
  obtain ⟨T, hT⟩ : ∃ T, T = sumC b := ⟨_, rfl⟩
  rw [← hT] at hm ⊢
  clear hmo hT h
  go_enter Tryd.func102, Tryd.ntmps102
  go_wp2_with (go_at_call 114; go_must (with_reducible refine hm.out.mono ?_); rintro e w1 ⟨rfl, rfl⟩)
  go_ret
  exact ⟨rfl, rfl⟩
end Go.Proofs.YteecmgonbdbhdaaDoor
end

/-
Package geom: the address of a slot of the log. Package seal: a sector's bytes.
-/
section
namespace Go.Proofs.YteecmgonbdbhdaaDoor
open Go.RowKit
attribute [local go_sem ↓] Go.wp_at_zero Go.wp_at_succ

set_option maxHeartbeats 4000000 in
theorem told_any (g : Geo) (n : Int) (b : Bool) (w : World) : Calls Tryd.prog 63 #[gv g, .int .i64 n, .bool b] w fun e w' => e = .returned (if okG g && b then .tuple #[.int .i64 n, .int .i64 0] else .tuple #[.int .i64 0, .int .i64 1]) ∧ Below w.heap.size w w' := by
  obtain ⟨z, d, sp, sl, an⟩ := g
  have HB := Lib.hid ((Below.refl w.heap.size w).alloc (Nat.le_refl _) (.cells #[.int .i64 z, .int .i64 d, .int .i64 sp, .int .i64 sl, .int .i64 an] 23))
  have hgc := Lib.hid (gcheck_any ⟨z, d, sp, sl, an⟩ (w.alloc (.cells #[.int .i64 z, .int .i64 d, .int .i64 sp, .int .i64 sl, .int .i64 an] 23)))
  unfold gv errV at hgc
  unfold gv
  simp only at hgc ⊢
  cases hok : okG ⟨z, d, sp, sl, an⟩ with
  | false =>
    rw [hok] at hgc
    simp only [Bool.false_and, Bool.false_eq_true, if_false] at hgc ⊢
    clear hok
    go_enter Tryd.func63, Tryd.ntmps63
    go_wp2_with (go_at_call 69; go_must (with_reducible refine hgc.out.mono ?_); rintro e w1 ⟨rfl, hB1⟩)
    go_ret2
    exact ⟨rfl, HB.out.trans (hB1.mono HB.out.size)⟩
  | true =>
    rw [hok] at hgc
    clear hok
    cases b with
    | false =>
      simp only [if_true, Bool.and_false, Bool.false_eq_true, if_false] at hgc ⊢
      go_enter Tryd.func63, Tryd.ntmps63
      go_wp2_with (go_at_call 69; go_must (with_reducible refine hgc.out.mono ?_); rintro e w1 ⟨rfl, hB1⟩)
      go_ret2
      exact ⟨rfl, HB.out.trans (hB1.mono HB.out.size)⟩
    | true =>
      simp only [if_true, Bool.and_true] at hgc ⊢
      go_enter Tryd.func63, Tryd.ntmps63
      go_wp2_with (go_at_call 69; go_must (with_reducible refine hgc.out.mono ?_); rintro e w1 ⟨rfl, hB1⟩)
      go_ret2
      exact ⟨rfl, HB.out.trans (hB1.mono HB.out.size)⟩

/-- A sector's bytes. -/
def sealHead (addr stamp : Int) (p : List UInt8) : List UInt8 := ((UInt8.ofNat p.length :: p) ++ leB 2 addr.toNat) ++ leB 4 stamp.toNat
def sealB (addr stamp : Int) (p : List UInt8) : List UInt8 := sealHead addr stamp p ++ leB 4 (sumC (sealHead addr stamp p))
def okS (addr stamp : Int) (p : List UInt8) : Prop := 0 ≤ addr ∧ addr ≤ 65535 ∧ 0 ≤ stamp ∧ stamp ≤ 4294967295 ∧ p.length ≤ 96

set_option maxRecDepth 100000 in
set_option maxHeartbeats 8000000 in
theorem make_any (addr stamp : Int) (v : Value) (p : List UInt8) (w : World) (Mi : Ms) (h : SlR w Mi v p) (hok : okS addr stamp p) :
    Calls Tryd.prog 115 #[.agg #[.int .i64 addr, .int .i64 stamp, v]] w fun e w' => ∃ r, e = .returned (.tuple #[r, .int .i64 0]) ∧ OwR w' noM w.heap.size 5 r (sealB addr stamp p) ∧ Below w.heap.size w w' := by
  obtain ⟨a, c, rfl⟩ := h.form
  obtain ⟨h1, h2, h3, h4, h5⟩ := hok
  have h1' : ¬ addr < 0 := by omega
  have h2' : ¬ (65535 : Int) < addr := by omega
  have h3' : ¬ stamp < 0 := by omega
  have h4' : ¬ (4294967295 : Int) < stamp := by omega
  have h5' : ¬ (96 : Int) < p.length := by omega
  have hbA := (Below.refl w.heap.size w).alloc (Nat.le_refl _) (.cells #[.int .i64 addr, .int .i64 stamp, .slice a p.length c] 95)
  have HB := Lib.hid hbA
  have HQ := Lib.hid (Blk.new w 95 #[.int .i64 addr, .int .i64 stamp, .slice a p.length c])
  have hp1 := Lib.hid (part_any _ p (w.alloc (.cells #[.int .i64 addr, .int .i64 stamp, .slice a p.length c] 95)) noM noM (h.bare.mono (Keep.below hbA)) (by omega))
  obtain ⟨X1, hX1⟩ : ∃ X, X = UInt8.ofNat p.length :: p := ⟨_, rfl⟩
  rw [← hX1] at hp1
  have hl1 : X1.length ≤ 97 := by rw [hX1]; simp; omega
  have HX1 := Lib.hid hX1
  clear hX1 hbA h
  go_enter Tryd.func115, Tryd.ntmps115
  go_wp2_with fail
  ((with_reducible refine hp1.out.mono ?_); rintro e w1 ⟨r1, rfl, ho1, hB1⟩)
  have HB1 := Lib.hid (HB.out.trans (hB1.mono HB.out.size))
  have HQ1 := Lib.hid (HQ.out.below hB1)
  have hp2 := Lib.hid (put_any r1 X1 addr 2 w1 noM noM (ho1.sl (fun _ _ h => h)) (.inr (.inl rfl)) (by omega) h1 (by show addr < 65536; omega))
  obtain ⟨X2, hX2⟩ : ∃ X, X = X1 ++ leB (Int.toNat 2) addr.toNat := ⟨_, rfl⟩
  rw [← hX2] at hp2
  have hl2 : X2.length ≤ 99 := by rw [hX2, List.length_append, leB_len]; show _ + 2 ≤ _; omega
  have HX2 := Lib.hid hX2
  clear hX2 hB1 hp1 ho1 HB HQ
  obtain ⟨q1, q2, q3⟩ := HQ1.out.all
  go_wp2_with fail
  clear q1 q2 q3
  ((with_reducible refine hp2.out.mono ?_); rintro e w2 ⟨r2, rfl, ho2, hB2⟩)
  have HB2 := Lib.hid (HB1.out.trans (hB2.mono HB1.out.size))
  have HQ2 := Lib.hid (HQ1.out.below hB2)
  have hp3 := Lib.hid (put_any r2 X2 stamp 4 w2 noM noM (ho2.sl (fun _ _ h => h)) (.inr (.inr rfl)) (by omega) h3 (by show stamp < 4294967296; omega))
  obtain ⟨X3, hX3⟩ : ∃ X, X = X2 ++ leB (Int.toNat 4) stamp.toNat := ⟨_, rfl⟩
  rw [← hX3] at hp3
  have hl3 : X3.length ≤ 103 := by rw [hX3, List.length_append, leB_len]; show _ + 4 ≤ _; omega
  have HX3 := Lib.hid hX3
  clear hX3 hB2 hp2 ho2 HB1 HQ1
  obtain ⟨q1, q2, q3⟩ := HQ2.out.all
  go_wp2_with fail
  clear q1 q2 q3
  ((with_reducible refine hp3.out.mono ?_); rintro e w3 ⟨r3, rfl, ho3, hB3⟩)
  have HB3 := Lib.hid (HB2.out.trans (hB3.mono HB2.out.size))
  have hsm := Lib.hid (sumOf_any r3 X3 w3 noM (ho3.sl (fun _ _ h => h)))
  have hsl := sumC_le X3
  have hp4 := Lib.hid (put_any r3 X3 (sumC X3 : Nat) 4 w3 noM noM (ho3.sl (fun _ _ h => h)) (.inr (.inr rfl)) (by omega) (by omega) (by show ((sumC X3 : Nat) : Int) < 4294967296; omega))
  clear hB3 hp3 ho3 HB2 HQ2 hsl
  go_wp2_with fail
  ((with_reducible refine hsm.out.mono ?_); rintro e w4 ⟨rfl, rfl⟩)
  go_wp2_with fail
  ((with_reducible refine hp4.out.mono ?_); rintro e w5 ⟨r5, rfl, ho5, hB5⟩)
  have HX := Lib.hid (And.intro (ho5.mono_base (base' := w.heap.size) HB3.out.size) (HB3.out.trans (hB5.mono HB3.out.size)))
  clear ho5 hB5 hp4
  go_wp2
  go_ret2
  refine ⟨_, rfl, ?_, HX.out.2⟩
  have hf := HX.out.1
  rw [HX3.out, HX2.out, HX1.out] at hf
  exact hf
end Go.Proofs.YteecmgonbdbhdaaDoor
end

/-
Package geom: the address of a copy of a slot of the log; the reference's.
-/
section
namespace Go.Proofs.YteecmgonbdbhdaaDoor
open Go.RowKit
attribute [local go_sem ↓] Go.wp_at_zero Go.wp_at_succ

def okL (g : Geo) (copy slot : Int) : Bool := inB copy 0 1 && inB slot 0 (g.sl - 1)
def logAt (g : Geo) (copy slot : Int) : Int := g.an + copy * g.sl + slot

set_option maxRecDepth 100000 in
set_option maxHeartbeats 8000000 in
theorem log_any (g : Geo) (copy slot : Int) (w : World) (hg : okG g = true) :
    Calls Tryd.prog 41 #[gv g, .int .i64 copy, .int .i64 slot] w fun e w' => e = .returned (if okL g copy slot then .tuple #[.int .i64 (logAt g copy slot), .int .i64 0] else .tuple #[.int .i64 0, .int .i64 1]) ∧ Below w.heap.size w w' := by
  obtain ⟨z, d, sp, sl, an⟩ := g
  have HOK := Lib.hid hg
  obtain ⟨-, -, -, hs, ha⟩ := okG_iff.1 hg
  have hs1 : (14 : Int) ≤ sl := hs.1
  have hs2 : sl ≤ 30 := hs.2
  have ha1 : (1 : Int) ≤ an := ha.1
  have ha2 : an ≤ 3 := ha.2
  have hws : IntKind.i64.wrap (sl - 1) = sl - 1 := by rw [IntKind.wrap_i64]; omega
  have hE := Lib.hid (show okL ⟨z, d, sp, sl, an⟩ copy slot = (inB copy 0 1 && inB slot 0 (sl - 1)) from rfl)
  have hV : inB copy 0 1 = true → inB slot 0 (sl - 1) = true → IntKind.i64.wrap (IntKind.i64.wrap (an + IntKind.i64.wrap (copy * sl)) + slot) = an + copy * sl + slot := by
    intro h1 h2
    obtain ⟨c1, c2⟩ := inB_iff.1 h1
    obtain ⟨c3, c4⟩ := inB_iff.1 h2
    rcases (show copy = 0 ∨ copy = 1 by omega) with rfl | rfl
    · rw [Int.zero_mul, IntKind.wrap_i64, IntKind.wrap_i64, IntKind.wrap_i64]; omega
    · rw [Int.one_mul, IntKind.wrap_i64, IntKind.wrap_i64, IntKind.wrap_i64]; omega
  obtain ⟨m1, hm1⟩ : ∃ m1, IntKind.i64.wrap (copy * sl) = m1 := ⟨_, rfl⟩
  rw [hm1] at hV
  obtain ⟨m2, hm2⟩ : ∃ m2, IntKind.i64.wrap (an + m1) = m2 := ⟨_, rfl⟩
  rw [hm2] at hV
  obtain ⟨m3, hm3⟩ : ∃ m3, IntKind.i64.wrap (m2 + slot) = m3 := ⟨_, rfl⟩
  rw [hm3] at hV
  have HV := Lib.hid hV
  have hbA := (Below.refl w.heap.size w).alloc (Nat.le_refl _) (.cells #[.int .i64 z, .int .i64 d, .int .i64 sp, .int .i64 sl, .int .i64 an] 23)
  have HB := Lib.hid hbA.drew
  have HG := Lib.hid (Blk.new w 23 #[.int .i64 z, .int .i64 d, .int .i64 sp, .int .i64 sl, .int .i64 an]).drew
  have hin1 := fun w => gin_any copy 0 1 w
  have hin2 := fun w => gin_any slot 0 (sl - 1) w
  unfold gv
  simp only
  clear hbA hg hs ha hV
  cases hq1 : inB copy 0 1 with
  | false =>
    have hto := Lib.hid (told_any ⟨z, d, sp, sl, an⟩ m3 false (w.alloc (.cells #[.int .i64 z, .int .i64 d, .int .i64 sp, .int .i64 sl, .int .i64 an] 23)).drew)
    rw [HOK.out] at hto
    unfold gv at hto
    simp only [Bool.and_true, Bool.and_false, Bool.true_and, if_true, Bool.false_eq_true, if_false] at hto
    have hf : (false : Bool) = okL ⟨z, d, sp, sl, an⟩ copy slot := by rw [hE.out, hq1]; rfl
    rw [← hf, if_neg (by simp)]
    rw [hq1] at hin1
    clear hE hf hq1 HV
    go_enter Tryd.func41, Tryd.ntmps41
    go_wp2_with fail
    refine rp_enter [0, 2, 5, 15] (fun V => ∀ i, V.cell? ⟨w.heap.size, i, none⟩ = #[.int .i64 z, .int .i64 d, .int .i64 sp, .int .i64 sl, .int .i64 an][i]?) (by kernel_rfl) ?_
    have hS := Lib.hid HG.out.cell
    apply rp_take 0 rfl (by kernel_rfl) (fun _ _ _ h => h) (hS.out) rfl
    · (rintro W' hW; go_simp; try rfl)
    · (go_simp; try rfl)
    apply rp_pure 1 rfl (by kernel_rfl) (fun _ _ _ h => h) rfl
    · (intro W'; go_simp; try rfl)
    · (go_simp; try rfl)
    apply rp_take 2 rfl (by kernel_rfl) (fun _ _ _ h => h) (hS.out) rfl
    · (rintro W' hW; go_simp; try rfl)
    · (go_simp; try rfl)
    apply rp_pure 3 rfl (by kernel_rfl) (fun _ _ _ h => h) rfl
    · (intro W'; go_simp; try rfl)
    · (go_simp; try rfl)
    apply rp_pure 4 rfl (by kernel_rfl) (fun _ _ _ h => h) rfl
    · (intro W'; go_simp; try rfl)
    · (go_simp; try rfl)
    apply rp_take 5 rfl (by kernel_rfl) (fun _ _ _ h => h) (hS.out) rfl
    · (rintro W' hW; go_simp; try rfl)
    · (go_simp; try rfl)
    apply rp_pure 6 rfl (by kernel_rfl) (fun _ _ _ h => h) rfl
    · (intro W'; go_simp; try rfl)
    · (go_simp; try rfl)
    apply rp_pure 7 rfl (by kernel_rfl) (fun _ _ _ h => h) rfl
    · (intro W'; go_simp; try rfl)
    · (go_simp; try rfl)
    apply rp_pure 8 rfl (by kernel_rfl) (fun _ _ _ h => h) rfl
    · (intro W'; go_simp; try rfl)
    · (go_simp; try rfl)
    apply rp_pure 9 rfl (by kernel_rfl) (fun _ _ _ h => h) rfl
    · (intro W'; go_simp; try rfl)
    · (go_simp; try rfl)
    apply rp_pure 10 rfl (by kernel_rfl) (fun _ _ _ h => h) rfl
    · (intro W'; go_simp; try rfl)
    · (go_simp; try rfl)
    refine rp_only 11 (by kernel_rfl) rfl (fun K hK => ?_)
    go_simp
    ((with_reducible refine (hin1 _).mono ?_); rintro e w1 ⟨rfl, rfl⟩)
    refine hK _ _ ⟨fun _ h => h, ?_⟩; clear hK K
    apply rp_pure 12 rfl (by kernel_rfl) (fun _ _ _ h => h) rfl
    · (intro W'; go_simp; try rfl)
    · (go_simp; try rfl)
    apply rp_skip 13 rfl (by kernel_rfl) (fun _ _ _ h => h) rfl
    · (go_simp; try rfl)
    apply rp_skip 14 rfl (by kernel_rfl) (fun _ _ _ h => h) rfl
    · (go_simp; try rfl)
    apply rp_skip 15 rfl (by kernel_rfl) (fun _ _ _ h => h) rfl
    · (go_simp; try rfl)
    apply rp_skip 16 rfl (by kernel_rfl) (fun _ _ _ h => h) rfl
    · (go_simp; try rfl)
    apply rp_skip 17 rfl (by kernel_rfl) (fun _ _ _ h => h) rfl
    · (go_simp; try rfl)
    apply rp_pure 18 rfl (by kernel_rfl) (fun _ _ _ h => h) rfl
    · (intro W'; go_simp; try rfl)
    · (go_simp; try rfl)
    refine rp_only 19 (by kernel_rfl) rfl (fun K hK => ?_)
    go_simp
    ((with_reducible refine hto.out.mono ?_); rintro e w2 ⟨rfl, hB2⟩)
    have HB2 := Lib.hid (HB.out.trans (hB2.mono HB.out.size))
    refine hK _ _ ⟨fun _ _ => (HG.out.below hB2).cell, ?_⟩; clear hK K hB2
    apply rp_pure 20 rfl (by kernel_rfl) (fun _ _ _ h => h) rfl
    · (intro W'; go_simp; try rfl)
    · (go_simp; try rfl)
    apply rp_pure 21 rfl (by kernel_rfl) (fun _ _ _ h => h) rfl
    · (intro W'; go_simp; try rfl)
    · (go_simp; try rfl)
    apply rp_pure 22 rfl (by kernel_rfl) (fun _ _ _ h => h) rfl
    · (intro W'; go_simp; try rfl)
    · (go_simp; try rfl)
    apply rp_pure 23 rfl (by kernel_rfl) (fun _ _ _ h => h) rfl
    · (intro W'; go_simp; try rfl)
    · (go_simp; try rfl)
    refine rp_done (by kernel_rfl) ?_
    clear hS
    go_wp2
    go_ret2
    exact ⟨rfl, HB2.out⟩
  | true =>
    cases hq2 : inB slot 0 (sl - 1) with
    | false =>
      have hto := Lib.hid (told_any ⟨z, d, sp, sl, an⟩ m3 false (w.alloc (.cells #[.int .i64 z, .int .i64 d, .int .i64 sp, .int .i64 sl, .int .i64 an] 23)).drew)
      rw [HOK.out] at hto
      unfold gv at hto
      simp only [Bool.and_true, Bool.and_false, Bool.true_and, if_true, Bool.false_eq_true, if_false] at hto
      have hf : (false : Bool) = okL ⟨z, d, sp, sl, an⟩ copy slot := by rw [hE.out, hq1, hq2]; rfl
      rw [← hf, if_neg (by simp)]
      rw [hq1] at hin1
      rw [hq2] at hin2
      clear hE hf hq1 hq2 HV
      go_enter Tryd.func41, Tryd.ntmps41
      go_wp2_with fail
      refine rp_enter [0, 2, 5, 15] (fun V => ∀ i, V.cell? ⟨w.heap.size, i, none⟩ = #[.int .i64 z, .int .i64 d, .int .i64 sp, .int .i64 sl, .int .i64 an][i]?) (by kernel_rfl) ?_
      have hS := Lib.hid HG.out.cell
      apply rp_take 0 rfl (by kernel_rfl) (fun _ _ _ h => h) (hS.out) rfl
      · (rintro W' hW; go_simp; try rfl)
      · (go_simp; try rfl)
      apply rp_pure 1 rfl (by kernel_rfl) (fun _ _ _ h => h) rfl
      · (intro W'; go_simp; try rfl)
      · (go_simp; try rfl)
      apply rp_take 2 rfl (by kernel_rfl) (fun _ _ _ h => h) (hS.out) rfl
      · (rintro W' hW; go_simp; try rfl)
      · (go_simp; try rfl)
      apply rp_pure 3 rfl (by kernel_rfl) (fun _ _ _ h => h) rfl
      · (intro W'; go_simp; try rfl)
      · (go_simp; try rfl)
      apply rp_pure 4 rfl (by kernel_rfl) (fun _ _ _ h => h) rfl
      · (intro W'; go_simp; try rfl)
      · (go_simp; try rfl)
      apply rp_take 5 rfl (by kernel_rfl) (fun _ _ _ h => h) (hS.out) rfl
      · (rintro W' hW; go_simp; try rfl)
      · (go_simp; try rfl)
      apply rp_pure 6 rfl (by kernel_rfl) (fun _ _ _ h => h) rfl
      · (intro W'; go_simp; try rfl)
      · (go_simp; try rfl)
      apply rp_pure 7 rfl (by kernel_rfl) (fun _ _ _ h => h) rfl
      · (intro W'; go_simp; try rfl)
      · (go_simp; try rfl)
      apply rp_pure 8 rfl (by kernel_rfl) (fun _ _ _ h => h) rfl
      · (intro W'; go_simp; try rfl)
      · (go_simp; try rfl)
      apply rp_pure 9 rfl (by kernel_rfl) (fun _ _ _ h => h) rfl
      · (intro W'; go_simp; try rfl)
      · (go_simp; try rfl)
      apply rp_pure 10 rfl (by kernel_rfl) (fun _ _ _ h => h) rfl
      · (intro W'; go_simp; try rfl)
      · (go_simp; try rfl)
      refine rp_only 11 (by kernel_rfl) rfl (fun K hK => ?_)
      go_simp
      ((with_reducible refine (hin1 _).mono ?_); rintro e w1 ⟨rfl, rfl⟩)
      refine hK _ _ ⟨fun _ h => h, ?_⟩; clear hK K
      apply rp_pure 12 rfl (by kernel_rfl) (fun _ _ _ h => h) rfl
      · (intro W'; go_simp; try rfl)
      · (go_simp; try rfl)
      apply rp_pure 13 rfl (by kernel_rfl) (fun _ _ _ h => h) rfl
      · (intro W'; go_simp; try rfl)
      · (go_simp; try rfl)
      apply rp_pure 14 rfl (by kernel_rfl) (fun _ _ _ h => h) rfl
      · (intro W'; go_simp; try rfl)
      · (go_simp; try rfl)
      apply rp_take 15 rfl (by kernel_rfl) (fun _ _ _ h => h) (hS.out) rfl
      · (rintro W' hW; go_simp; try rfl)
      · (go_simp; try rfl)
      apply rp_pure 16 rfl (by kernel_rfl) (fun _ _ _ h => h) rfl
      · (intro W'; go_simp; try rfl)
      · (go_simp; try rfl)
      refine rp_only 17 (by kernel_rfl) rfl (fun K hK => ?_)
      go_simp
      ((with_reducible refine (hin2 _).mono ?_); rintro e w1 ⟨rfl, rfl⟩)
      refine hK _ _ ⟨fun _ h => h, ?_⟩; clear hK K
      apply rp_pure 18 rfl (by kernel_rfl) (fun _ _ _ h => h) rfl
      · (intro W'; go_simp; try rfl)
      · (go_simp; try rfl)
      refine rp_only 19 (by kernel_rfl) rfl (fun K hK => ?_)
      go_simp
      ((with_reducible refine hto.out.mono ?_); rintro e w2 ⟨rfl, hB2⟩)
      have HB2 := Lib.hid (HB.out.trans (hB2.mono HB.out.size))
      refine hK _ _ ⟨fun _ _ => (HG.out.below hB2).cell, ?_⟩; clear hK K hB2
      apply rp_pure 20 rfl (by kernel_rfl) (fun _ _ _ h => h) rfl
      · (intro W'; go_simp; try rfl)
      · (go_simp; try rfl)
      apply rp_pure 21 rfl (by kernel_rfl) (fun _ _ _ h => h) rfl
      · (intro W'; go_simp; try rfl)
      · (go_simp; try rfl)
      apply rp_pure 22 rfl (by kernel_rfl) (fun _ _ _ h => h) rfl
      · (intro W'; go_simp; try rfl)
      · (go_simp; try rfl)
      apply rp_pure 23 rfl (by kernel_rfl) (fun _ _ _ h => h) rfl
      · (intro W'; go_simp; try rfl)
      · (go_simp; try rfl)
      refine rp_done (by kernel_rfl) ?_
      clear hS
      go_wp2
      go_ret2
      exact ⟨rfl, HB2.out⟩
    | true =>
      have hto := Lib.hid (told_any ⟨z, d, sp, sl, an⟩ m3 true (w.alloc (.cells #[.int .i64 z, .int .i64 d, .int .i64 sp, .int .i64 sl, .int .i64 an] 23)).drew)
      rw [HOK.out] at hto
      unfold gv at hto
      simp only [Bool.and_true, Bool.and_false, Bool.true_and, if_true, Bool.false_eq_true, if_false] at hto
      have hf : (true : Bool) = okL ⟨z, d, sp, sl, an⟩ copy slot := by rw [hE.out, hq1, hq2]; rfl
      have hl : logAt ⟨z, d, sp, sl, an⟩ copy slot = m3 := (HV.out hq1 hq2).symm
      rw [← hf, hl, if_pos rfl]
      rw [hq1] at hin1
      rw [hq2] at hin2
      clear hE hf hq1 hq2 hl HV
      go_enter Tryd.func41, Tryd.ntmps41
      go_wp2_with fail
      refine rp_enter [0, 2, 5, 15] (fun V => ∀ i, V.cell? ⟨w.heap.size, i, none⟩ = #[.int .i64 z, .int .i64 d, .int .i64 sp, .int .i64 sl, .int .i64 an][i]?) (by kernel_rfl) ?_
      have hS := Lib.hid HG.out.cell
      apply rp_take 0 rfl (by kernel_rfl) (fun _ _ _ h => h) (hS.out) rfl
      · (rintro W' hW; go_simp; try rfl)
      · (go_simp; try rfl)
      apply rp_pure 1 rfl (by kernel_rfl) (fun _ _ _ h => h) rfl
      · (intro W'; go_simp; try rfl)
      · (go_simp; try rfl)
      apply rp_take 2 rfl (by kernel_rfl) (fun _ _ _ h => h) (hS.out) rfl
      · (rintro W' hW; go_simp; try rfl)
      · (go_simp; try rfl)
      apply rp_pure 3 rfl (by kernel_rfl) (fun _ _ _ h => h) rfl
      · (intro W'; go_simp; try rfl)
      · (go_simp; try rfl)
      apply rp_pure 4 rfl (by kernel_rfl) (fun _ _ _ h => h) rfl
      · (intro W'; go_simp; try rfl)
      · (go_simp; try rfl)
      apply rp_take 5 rfl (by kernel_rfl) (fun _ _ _ h => h) (hS.out) rfl
      · (rintro W' hW; go_simp; try rfl)
      · (go_simp; try rfl)
      apply rp_pure 6 rfl (by kernel_rfl) (fun _ _ _ h => h) rfl
      · (intro W'; go_simp; try rfl)
      · (go_simp; try rfl)
      apply rp_pure 7 rfl (by kernel_rfl) (fun _ _ _ h => h) rfl
      · (intro W'; go_simp; try rfl)
      · (go_simp; try rfl)
      apply rp_pure 8 rfl (by kernel_rfl) (fun _ _ _ h => h) rfl
      · (intro W'; go_simp; try rfl)
      · (go_simp; try rfl)
      apply rp_pure 9 rfl (by kernel_rfl) (fun _ _ _ h => h) rfl
      · (intro W'; go_simp; try rfl)
      · (go_simp; try rfl)
      apply rp_pure 10 rfl (by kernel_rfl) (fun _ _ _ h => h) rfl
      · (intro W'; go_simp; try rfl)
      · (go_simp; try rfl)
      refine rp_only 11 (by kernel_rfl) rfl (fun K hK => ?_)
      go_simp
      ((with_reducible refine (hin1 _).mono ?_); rintro e w1 ⟨rfl, rfl⟩)
      refine hK _ _ ⟨fun _ h => h, ?_⟩; clear hK K
      apply rp_pure 12 rfl (by kernel_rfl) (fun _ _ _ h => h) rfl
      · (intro W'; go_simp; try rfl)
      · (go_simp; try rfl)
      apply rp_pure 13 rfl (by kernel_rfl) (fun _ _ _ h => h) rfl
      · (intro W'; go_simp; try rfl)
      · (go_simp; try rfl)
      apply rp_pure 14 rfl (by kernel_rfl) (fun _ _ _ h => h) rfl
      · (intro W'; go_simp; try rfl)
      · (go_simp; try rfl)
      apply rp_take 15 rfl (by kernel_rfl) (fun _ _ _ h => h) (hS.out) rfl
      · (rintro W' hW; go_simp; try rfl)
      · (go_simp; try rfl)
      apply rp_pure 16 rfl (by kernel_rfl) (fun _ _ _ h => h) rfl
      · (intro W'; go_simp; try rfl)
      · (go_simp; try rfl)
      refine rp_only 17 (by kernel_rfl) rfl (fun K hK => ?_)
      go_simp
      ((with_reducible refine (hin2 _).mono ?_); rintro e w1 ⟨rfl, rfl⟩)
      refine hK _ _ ⟨fun _ h => h, ?_⟩; clear hK K
      apply rp_pure 18 rfl (by kernel_rfl) (fun _ _ _ h => h) rfl
      · (intro W'; go_simp; try rfl)
      · (go_simp; try rfl)
      refine rp_only 19 (by kernel_rfl) rfl (fun K hK => ?_)
      go_simp
      ((with_reducible refine hto.out.mono ?_); rintro e w2 ⟨rfl, hB2⟩)
      have HB2 := Lib.hid (HB.out.trans (hB2.mono HB.out.size))
      refine hK _ _ ⟨fun _ _ => (HG.out.below hB2).cell, ?_⟩; clear hK K hB2
      apply rp_pure 20 rfl (by kernel_rfl) (fun _ _ _ h => h) rfl
      · (intro W'; go_simp; try rfl)
      · (go_simp; try rfl)
      apply rp_pure 21 rfl (by kernel_rfl) (fun _ _ _ h => h) rfl
      · (intro W'; go_simp; try rfl)
      · (go_simp; try rfl)
      apply rp_pure 22 rfl (by kernel_rfl) (fun _ _ _ h => h) rfl
      · (intro W'; go_simp; try rfl)
      · (go_simp; try rfl)
      apply rp_pure 23 rfl (by kernel_rfl) (fun _ _ _ h => h) rfl
      · (intro W'; go_simp; try rfl)
      · (go_simp; try rfl)
      refine rp_done (by kernel_rfl) ?_
      clear hS
      go_wp2
      go_ret2
      exact ⟨rfl, HB2.out⟩

theorem rlogAt_any (g : Geo) (copy slot : Int) (w : World) (hg : okG g = true) (hl : okL g copy slot = true) : Calls Tryd.prog 33 #[gv g, .int .i64 copy, .int .i64 slot] w fun e w' => e = .returned (.int .i64 (logAt g copy slot)) ∧ Below w.heap.size w w' := by
  obtain ⟨z, d, sp, sl, an⟩ := g
  obtain ⟨-, -, -, hs, ha⟩ := okG_iff.1 hg
  have hs1 : (14 : Int) ≤ sl := hs.1
  have hs2 : sl ≤ 30 := hs.2
  have ha1 : (1 : Int) ≤ an := ha.1
  have ha2 : an ≤ 3 := ha.2
  simp only [okL, Bool.and_eq_true, inB_iff] at hl
  have HB := Lib.hid ((Below.refl w.heap.size w).alloc (Nat.le_refl _) (.cells #[.int .i64 z, .int .i64 d, .int .i64 sp, .int .i64 sl, .int .i64 an] 23))
  have hcm : 0 ≤ copy * sl ∧ copy * sl ≤ 30 := by
    rcases (show copy = 0 ∨ copy = 1 by omega) with rfl | rfl
    · omega
    · omega
  have hE := Lib.hid (show logAt ⟨z, d, sp, sl, an⟩ copy slot = an + copy * sl + slot from rfl)
  rw [hE.out]
  obtain ⟨P, hP⟩ : ∃ P, copy * sl = P := ⟨_, rfl⟩
  rw [hP] at hcm ⊢
  have hw1 : IntKind.i64.wrap P = P := by rw [IntKind.wrap_i64]; omega
  have hw2 : IntKind.i64.wrap (an + P) = an + P := by rw [IntKind.wrap_i64]; omega
  have hw3 : IntKind.i64.wrap (an + P + slot) = an + P + slot := by rw [IntKind.wrap_i64]; omega
  unfold gv
  simp only
  obtain ⟨hl1, hl2, hl3⟩ := hl
  clear hg hs ha hcm hE hl1
  go_enter Tryd.func33, Tryd.ntmps33
  go_wp2
  go_ret
  exact ⟨rfl, HB.out⟩
end Go.Proofs.YteecmgonbdbhdaaDoor
end

/-
rec.Cell.
-/
section
namespace Go.Proofs.YteecmgonbdbhdaaDoor
open Go.RowKit
attribute [local go_sem ↓] Go.wp_at_zero Go.wp_at_succ

def cellB (g : Geo) (r : Rc) (copy slot : Int) : List UInt8 := sealB (logAt g copy slot) r.seq (recB r)
def RcellP (w' : World) (base : Nat) (g : Geo) (r : Rc) (copy slot : Int) (e : Ending) : Prop :=
  (okR g r = true ∧ okL g copy slot = true ∧ ∃ v, e = .returned (.tuple #[v, .int .i64 0]) ∧ OwR w' noM base 5 v (cellB g r copy slot)) ∨
  ((okR g r = false ∨ okL g copy slot = false) ∧ e = .returned (.tuple #[.slice none 0 0, .int .i64 1]))
theorem logAt_bounds {g : Geo} {copy slot : Int} (hg : okG g = true) (hl : okL g copy slot = true) : 0 ≤ logAt g copy slot ∧ logAt g copy slot ≤ 65535 := by
  obtain ⟨-, -, -, hs, ha⟩ := okG_iff.1 hg
  simp only [okL, Bool.and_eq_true, inB_iff] at hl
  unfold logAt
  rcases (show copy = 0 ∨ copy = 1 by omega) with rfl | rfl <;> omega
theorem okR_seq {g : Geo} {r : Rc} (h : okR g r = true) : 0 ≤ r.seq ∧ r.seq ≤ 4294967295 := by
  rcases (okR_parts h).2 with h' | h' | h' <;> omega

set_option maxRecDepth 100000 in
set_option maxHeartbeats 8000000 in
theorem rcell_any (g : Geo) (r : Rc) (copy slot : Int) (v : Value) (w : World) (Mi : Ms) (h : SlR w Mi v r.img.bytes) (hl : r.img.bytes.length ≤ 100000) :
    Calls Tryd.prog 105 #[gv g, rv r v, .int .i64 copy, .int .i64 slot] w fun e w' => RcellP w' w.heap.size g r copy slot e ∧ Below w.heap.size w w' := by
  obtain ⟨kind, seq, epoch, at_, of_, ⟨zone, what, bytes⟩⟩ := r
  obtain ⟨z, d, sp, sl, an⟩ := g
  simp only at h hl
  obtain ⟨a, c, rfl⟩ := h.form
  have hb1 := (Below.refl w.heap.size w).alloc (Nat.le_refl _) (.cells #[.int .i64 z, .int .i64 d, .int .i64 sp, .int .i64 sl, .int .i64 an] 23)
  have hb2 := hb1.alloc (by simp) (.cells #[.int .i64 kind, .int .i64 seq, .int .i64 epoch, .int .i64 at_, .int .i64 of_, .int .i64 zone, .int .i64 what, .slice a bytes.length c] 34)
  have hG := (Blk.new w 23 #[.int .i64 z, .int .i64 d, .int .i64 sp, .int .i64 sl, .int .i64 an]).alloc (.cells #[.int .i64 kind, .int .i64 seq, .int .i64 epoch, .int .i64 at_, .int .i64 of_, .int .i64 zone, .int .i64 what, .slice a bytes.length c] 34)
  have hT := Blk.new (w.alloc (.cells #[.int .i64 z, .int .i64 d, .int .i64 sp, .int .i64 sl, .int .i64 an] 23)) 34 #[.int .i64 kind, .int .i64 seq, .int .i64 epoch, .int .i64 at_, .int .i64 of_, .int .i64 zone, .int .i64 what, .slice a bytes.length c]
  simp only [World.size_alloc] at hT
  have hby := Lib.hid (rbytes_any ⟨z, d, sp, sl, an⟩ ⟨kind, seq, epoch, at_, of_, ⟨zone, what, bytes⟩⟩ (.slice a bytes.length c) _ Mi (h.mono (Keep.below hb2)) hl)
  unfold gv rv at hby ⊢
  simp only at hby ⊢
  have HB := Lib.hid hb2
  have HG := Lib.hid hG
  have HT := Lib.hid hT
  clear hb1 hb2 hG hT h
  go_enter Tryd.func105, Tryd.ntmps105
  go_wp2_with fail
  ((with_reducible refine hby.out.mono ?_); rintro e w1 ⟨hU, hB1⟩)
  have HB1 := Lib.hid (HB.out.trans (hB1.mono HB.out.size))
  have HG1 := Lib.hid (HG.out.below hB1)
  have HT1 := Lib.hid (HT.out.below hB1)
  clear hB1 hby HB HG HT
  rcases hU with ⟨hok, vb, rfl, ho⟩ | ⟨hno, rfl⟩
  · have HOK := Lib.hid hok
    have hgk := (okR_parts hok).1
    have HGK := Lib.hid hgk
    obtain ⟨pb, cb, rfl⟩ := ho.form
    obtain ⟨X, hX⟩ : ∃ X, X = recB ⟨kind, seq, epoch, at_, of_, ⟨zone, what, bytes⟩⟩ := ⟨_, rfl⟩
    rw [← hX] at ho ⊢
    have hXs := recB_short hok
    rw [← hX] at hXs
    have HX := Lib.hid hX
    have HO := Lib.hid ho
    have hlg := Lib.hid (log_any ⟨z, d, sp, sl, an⟩ copy slot w1 hgk)
    unfold gv at hlg
    simp only at hlg
    obtain ⟨xs1, xs2⟩ := hXs
    obtain ⟨g1, g2, g3⟩ := HG1.out.all
    clear hok hX ho hgk
    cases hlo : okL ⟨z, d, sp, sl, an⟩ copy slot with
    | false =>
      have HL := Lib.hid hlo
      rw [hlo] at hlg
      simp only [Bool.false_eq_true, if_false] at hlg
      clear hlo
      go_wp2_with fail
      clear g1 g2 g3
      ((with_reducible refine hlg.out.mono ?_); rintro e w2 ⟨rfl, hB2⟩)
      go_wp2
      go_ret2
      exact ⟨.inr ⟨.inr HL.out, rfl⟩, HB1.out.trans (hB2.mono HB1.out.size)⟩
    | true =>
      have HL := Lib.hid hlo
      have hbd := logAt_bounds HGK.out hlo
      rw [hlo] at hlg
      simp only [if_true] at hlg
      obtain ⟨A, hA⟩ : ∃ A, A = logAt ⟨z, d, sp, sl, an⟩ copy slot := ⟨_, rfl⟩
      rw [← hA] at hlg hbd
      have HA := Lib.hid hA
      have hsq := okR_seq HOK.out
      simp only at hsq
      clear hlo hA
      go_wp2_with fail
      clear g1 g2 g3
      ((with_reducible refine hlg.out.mono ?_); rintro e w2 ⟨rfl, hB2⟩)
      have HB2 := Lib.hid (HB1.out.trans (hB2.mono HB1.out.size))
      have hmk := Lib.hid (make_any A seq (.slice pb X.length cb) X w2 noM ((HO.out.below hB2).sl (fun _ _ h => h)) ⟨hbd.1, hbd.2, hsq.1, hsq.2, by omega⟩)
      obtain ⟨t1, t2, t3⟩ := (HT1.out.below hB2).all
      clear hB2 hlg hbd hsq
      go_wp2_with fail
      clear t1 t2 t3
      ((with_reducible refine hmk.out.mono ?_); rintro e w3 ⟨r3, rfl, ho3, hB3⟩)
      have HF := Lib.hid (And.intro (ho3.mono_base (base' := w.heap.size) HB2.out.size) (HB2.out.trans (hB3.mono HB2.out.size)))
      clear ho3 hB3 hmk
      go_wp2
      go_ret2
      refine ⟨.inl ⟨HOK.out, HL.out, _, rfl, ?_⟩, HF.out.2⟩
      have hf := HF.out.1
      rw [HA.out, HX.out] at hf
      exact hf
  · have HN := Lib.hid hno
    clear hno
    go_wp2
    go_ret2
    exact ⟨.inr ⟨.inl HN.out, rfl⟩, HB1.out⟩
end Go.Proofs.YteecmgonbdbhdaaDoor
end

/-
What the package's and the reference's functions answer, in one form for every input.
-/
section
namespace Go.Proofs.YteecmgonbdbhdaaDoor
open Go.RowKit

def zeroC : Rc := ⟨0, 0, 0, 0, 0, ⟨0, 0, []⟩⟩
def readE (g : Geo) (b : List UInt8) : Int := if okG g = false then 1 else if (readR g b).isSome then 0 else 4
theorem bytesU_any (g : Geo) (r : Rc) (v : Value) (w : World) (Mi : Ms) (h : SlR w Mi v r.img.bytes) (hl : r.img.bytes.length ≤ 100000) :
    Calls Tryd.prog 72 #[gv g, rv r v] w fun e w' => ∃ x, e = .returned (.tuple #[x, errV (okR g r)]) ∧ OwR w' noM w.heap.size 5 x (if okR g r then recB r else []) ∧ Below w.heap.size w w' := by
  refine (rbytes_any g r v w Mi h hl).mono ?_
  rintro e w' ⟨⟨hok, x, rfl, ho⟩ | ⟨hok, rfl⟩, hB⟩
  · exact ⟨x, by rw [hok]; rfl, by rw [hok]; exact ho, hB⟩
  · exact ⟨_, by rw [hok]; rfl, by rw [hok]; exact OwR.nil _ _ _ _, hB⟩
theorem cellU_any (g : Geo) (r : Rc) (copy slot : Int) (v : Value) (w : World) (Mi : Ms) (h : SlR w Mi v r.img.bytes) (hl : r.img.bytes.length ≤ 100000) :
    Calls Tryd.prog 105 #[gv g, rv r v, .int .i64 copy, .int .i64 slot] w fun e w' => ∃ x, e = .returned (.tuple #[x, errV (okR g r && okL g copy slot)]) ∧ OwR w' noM w.heap.size 5 x (if okR g r && okL g copy slot then cellB g r copy slot else []) ∧ Below w.heap.size w w' := by
  refine (rcell_any g r copy slot v w Mi h hl).mono ?_
  rintro e w' ⟨⟨h1, h2, x, rfl, ho⟩ | ⟨hno, rfl⟩, hB⟩
  · exact ⟨x, by rw [h1, h2]; rfl, by rw [h1, h2]; exact ho, hB⟩
  · have hq : (okR g r && okL g copy slot) = false := by rcases hno with h | h <;> rw [h] <;> simp
    exact ⟨_, by rw [hq]; rfl, by rw [hq]; exact OwR.nil _ _ _ _, hB⟩
theorem readU_any (g : Geo) (v : Value) (b : List UInt8) (w : World) (Mi : Ms) (h : SlR w Mi v b) (hl : b.length ≤ 100000) :
    Calls Tryd.prog 43 #[gv g, v] w fun e w' => ∃ x r, e = .returned (.tuple #[rv r x, .int .i64 (readE g b)]) ∧ r = (if okG g then (readR g b).getD zeroC else zeroC) ∧ OwR w' noM w.heap.size 5 x r.img.bytes ∧ Below w.heap.size w w' := by
  refine (rread_any g v b w Mi h hl).mono ?_
  rintro e w' ⟨⟨h1, rfl⟩ | ⟨h1, h2, rfl⟩ | ⟨h1, x, r, h2, rfl, ho⟩, hB⟩
  · exact ⟨.slice none 0 0, zeroC, by simp only [readE, h1]; rfl, by rw [h1]; rfl, OwR.nil _ _ _ _, hB⟩
  · exact ⟨.slice none 0 0, zeroC, by simp only [readE, h1, h2]; rfl, by rw [h1, h2]; rfl, OwR.nil _ _ _ _, hB⟩
  · exact ⟨x, r, by simp only [readE, h1, h2]; rfl, by rw [h1, h2]; rfl, ho, hB⟩
theorem readRecU_any (g : Geo) (v : Value) (b : List UInt8) (w : World) (Mi : Ms) (h : SlR w Mi v b) (hl : b.length ≤ 100000) (hg : okG g = true) :
    Calls Tryd.prog 50 #[gv g, v] w fun e w' => ∃ x r, e = .returned (.tuple #[rv r x, .bool (readR g b).isSome]) ∧ r = (readR g b).getD zeroC ∧ OwR w' noM w.heap.size 5 x r.img.bytes ∧ Below w.heap.size w w' := by
  refine (rreadRec_any g v b w Mi h hl hg).mono ?_
  rintro e w' ⟨⟨h2, rfl⟩ | ⟨x, r, h2, rfl, ho⟩, hB⟩
  · exact ⟨.slice none 0 0, zeroC, by rw [h2]; rfl, by rw [h2]; rfl, OwR.nil _ _ _ _, hB⟩
  · exact ⟨x, r, by rw [h2]; rfl, by rw [h2]; rfl, ho, hB⟩
end Go.Proofs.YteecmgonbdbhdaaDoor
end

/-
The reference: a number's bytes, a part.
-/
section
namespace Go.Proofs.YteecmgonbdbhdaaDoor
open Go.RowKit
attribute [local go_sem ↓] Go.wp_at_zero Go.wp_at_succ

theorem leB_step : ∀ (k n : Nat), leB (k + 1) n = leB k n ++ [UInt8.ofNat (n / 256 ^ k % 256)]
  | 0, n => by simp [leB]
  | k + 1, n => by
    show UInt8.ofNat (n % 256) :: leB (k + 1) (n / 256) = (UInt8.ofNat (n % 256) :: leB k (n / 256)) ++ _
    rw [leB_step k (n / 256), Nat.div_div_eq_div_mul, Nat.pow_succ, Nat.mul_comm 256]
    rfl

set_option maxRecDepth 100000 in
set_option maxHeartbeats 8000000 in
theorem rput_any (v : Value) (l : List UInt8) (n m : Nat) (w : World) (Mi : Ms) (h : SlR w Mi v l) (hl : l.length ≤ 1000000) (hn : n ≤ 4294967295) (hm : m ≤ 4) :
    Calls Tryd.prog 87 #[v, .int .i64 n, .int .i64 m] w fun e w' => ∃ r, e = .returned r ∧ OwR w' noM w.heap.size 5 r (l ++ leB m n) ∧ Below w.heap.size w w' := by
  obtain ⟨a, c, rfl⟩ := h.form
  have htw := Lib.hid (twinO_any (.slice a l.length c) l w Mi h (by omega))
  clear h
  go_enter Tryd.func87, Tryd.ntmps87
  go_wp2_with fail
  ((with_reducible refine htw.out.mono ?_); rintro e w1 ⟨r1, rfl, ho1, hB1⟩)
  have HI := Lib.hid (And.intro ho1 hB1)
  clear ho1 hB1 htw
  go_wp2
  go_loopg [1, 7, 8] m (fun gk s1 s7 s8 wr => ∃ k : Nat, s8 = .int .i64 k ∧ k ≤ m ∧ m - k ≤ gk ∧ s1 = .int .i64 (n / 256 ^ k : Nat) ∧ Hid (OwR wr noM w.heap.size 5 s7 (l ++ leB k n) ∧ Below w.heap.size w wr))
  case atStart => exact ⟨0, rfl, Nat.zero_le _, by omega, by simp, Lib.hid ⟨by simpa [leB] using HI.out.1, HI.out.2⟩⟩
  case round =>
    obtain ⟨k, rfl, hkm, hgk, rfl, hI⟩ := hrel
    obtain ⟨w0, rfl⟩ : ∃ w0, w0 = wr := ⟨_, rfl⟩
    by_cases hlt : k < m
    · have hlt' : (k : Int) < m := by omega
      have hdiv := Lib.hid (show n / 256 ^ k / 256 = n / 256 ^ (k + 1) by rw [Nat.div_div_eq_div_mul, Nat.pow_succ])
      have hq : n / 256 ^ k ≤ 4294967295 := Nat.le_trans (Nat.div_le_self _ _) hn
      have hst := Lib.hid (leB_step k n)
      obtain ⟨q, hq0⟩ : ∃ q, q = n / 256 ^ k := ⟨_, rfl⟩
      rw [← hq0] at hdiv hst hq ⊢
      clear hq0
      have hw8 : IntKind.u8.wrap (q : Int) = ((q % 256 : Nat) : Int) := by rw [IntKind.wrap_u8]; omega
      have htd : (q : Int).tdiv 256 = ((q / 256 : Nat) : Int) := by rw [Int.tdiv_eq_ediv_of_nonneg (by omega)]; omega
      have hwd : IntKind.i64.wrap ((q / 256 : Nat) : Int) = ((q / 256 : Nat) : Int) := by rw [IntKind.wrap_i64]; omega
      have hL := OwR.litB w0 noM [UInt8.ofNat (q % 256)] (by simp)
      have e : ((UInt8.ofNat (q % 256)).toNat : Int) = ((q % 256 : Nat) : Int) := by rw [UInt8.toNat_ofNat_of_lt' (Nat.mod_lt _ (by decide))]
      simp only [List.map_cons, List.map_nil, e, List.length_cons, List.length_nil] at hL
      have hbA := (Below.refl w0.heap.size w0).alloc (Nat.le_refl _) (.cells #[Value.int .u8 ((q % 256 : Nat) : Int)] 5)
      have hown : ∀ b, u7.ownBlock = some b → b < w0.heap.size := fun b e => hI.out.1.own_lt e
      have hS := Lib.hid (hL.sl (M := fun b => noM b ∨ u7.ownBlock = some b) (fun b hb hm => hm.elim (fun h => h) (fun h => by have := hown b h; omega)))
      have O3 := Lib.hid (hI.out.1.below hbA)
      have HB3 := Lib.hid (hI.out.2.trans (hbA.mono hI.out.2.size))
      have hlk : (l ++ leB k n).length + [UInt8.ofNat (q % 256)].length ≤ 1000000000 := by rw [List.length_append, leB_len]; simp; omega
      clear e hL hbA hown hI
      go_wp2_with (at_builtin; go_must (refine wpList_append_R (α := UInt8) (M := noM) (base := w.heap.size) (l := l ++ leB k n) (m := [UInt8.ofNat (q % 256)]) rfl (by rfl) tyB (by rfl) O3.out (by rfl) hS.out hlk HB3.out.size ?_); intro v4 w4 ho4 hg4 hat4)
      rw [List.append_assoc, ← hst.out] at ho4
      have HX := Lib.hid (And.intro ho4 (HB3.out.grown hg4 HB3.out.size (fun b e => O3.out.own_ge e)))
      clear ho4 hg4 hat4
      go_roundg (m - (k + 1))
      case measure => omega
      case rel => exact ⟨k + 1, by go_num, by omega, by omega, by rw [← hdiv.out]; exact congrArg (Value.int .i64) (by omega), HX⟩
    · obtain rfl : k = m := by omega
      go_wp2
      go_ret
      exact ⟨_, rfl, hI.out.1, hI.out.2⟩

theorem rput2_any (v : Value) (l : List UInt8) (n : Nat) (w : World) (h : SlR w noM v l) (hl : l.length ≤ 1000000) (hn : n ≤ 4294967295) :
    Calls Tryd.prog 87 #[v, .int .i64 n, .int .i64 2] w fun e w' => ∃ r, e = .returned r ∧ OwR w' noM w.heap.size 5 r (l ++ leB 2 n) ∧ Below w.heap.size w w' := rput_any v l n 2 w noM h hl hn (by decide)
theorem rput4_any (v : Value) (l : List UInt8) (n : Nat) (w : World) (h : SlR w noM v l) (hl : l.length ≤ 1000000) (hn : n ≤ 4294967295) :
    Calls Tryd.prog 87 #[v, .int .i64 n, .int .i64 4] w fun e w' => ∃ r, e = .returned r ∧ OwR w' noM w.heap.size 5 r (l ++ leB 4 n) ∧ Below w.heap.size w w' := rput_any v l n 4 w noM h hl hn (by decide)

set_option maxRecDepth 100000 in
set_option maxHeartbeats 8000000 in
theorem rpart_any (v : Value) (l : List UInt8) (w : World) (Mi : Ms) (h : SlR w Mi v l) (hl : l.length ≤ 255) :
    Calls Tryd.prog 104 #[v] w fun e w' => ∃ r, e = .returned r ∧ OwR w' noM w.heap.size 5 r (UInt8.ofNat l.length :: l) ∧ Below w.heap.size w w' := by
  obtain ⟨a, c, rfl⟩ := h.form
  have hL := OwR.litB w noM [UInt8.ofNat l.length] (by simp)
  have e : ((UInt8.ofNat l.length).toNat : Int) = (l.length : Int) := by simp; omega
  simp only [List.map_cons, List.map_nil, e, List.length_cons, List.length_nil] at hL
  have hL := Lib.hid hL
  have hS := Lib.hid (h.bare.mono (Keep.ownNew (o := .cells #[Value.int .u8 (l.length : Int)] 5) (n := 1) (c := 1)))
  have HB := Lib.hid ((Below.refl w.heap.size w).alloc (Nat.le_refl _) (.cells #[Value.int .u8 (l.length : Int)] 5))
  have hw8 : IntKind.u8.wrap (l.length : Int) = l.length := by rw [IntKind.wrap_u8]; omega
  have hb : [UInt8.ofNat l.length].length + l.length ≤ 1000000000 := by simp; omega
  clear h e hl
  go_enter Tryd.func104, Tryd.ntmps104
  go_wp2_with (at_builtin; go_must (refine wpList_append_R (α := UInt8) (M := noM) (base := w.heap.size) (l := [UInt8.ofNat l.length]) (m := l) rfl (by rfl) tyB (by rfl) hL.out (by rfl) hS.out hb HB.out.size ?_); intro v4 w4 ho4 hg4 hat4)
  have HO := Lib.hid (And.intro ho4 (HB.out.grown hg4 HB.out.size (fun b e => hL.out.own_ge e)))
  clear ho4 hg4 hat4
  go_wp2
  go_ret
  exact ⟨_, rfl, HO.out.1, HO.out.2⟩
end Go.Proofs.YteecmgonbdbhdaaDoor
end

/-
The reference: a sector's bytes, a cell.
-/
section
namespace Go.Proofs.YteecmgonbdbhdaaDoor
open Go.RowKit
attribute [local go_sem ↓] Go.wp_at_zero Go.wp_at_succ

set_option maxRecDepth 100000 in
set_option maxHeartbeats 8000000 in
theorem rseal_any (A T : Nat) (v : Value) (p : List UInt8) (w : World) (Mi : Ms) (h : SlR w Mi v p) (hA : A ≤ 65535) (hT : T ≤ 4294967295) (hp : p.length ≤ 96) :
    Calls Tryd.prog 103 #[.agg #[.int .i64 A, .int .i64 T, v]] w fun e w' => ∃ r, e = .returned r ∧ OwR w' noM w.heap.size 5 r (sealB A T p) ∧ Below w.heap.size w w' := by
  obtain ⟨a, c, rfl⟩ := h.form
  have hb0 := (Below.refl w.heap.size w).alloc (Nat.le_refl _) (.cells #[.int .i64 A, .int .i64 T, .slice a p.length c] 95)
  have HB := Lib.hid hb0.drew
  have HZ := Lib.hid (Blk.new w 95 #[.int .i64 A, .int .i64 T, .slice a p.length c]).drew
  have H := Lib.hid h.bare
  have HE := Lib.hid (show sealB A T p = (((UInt8.ofNat p.length :: p) ++ leB 2 A) ++ leB 4 T) ++ leB 4 (sumC (((UInt8.ofNat p.length :: p) ++ leB 2 A) ++ leB 4 T)) from rfl)
  have HP := Lib.hid hp
  clear hb0 h
  go_enter Tryd.func103, Tryd.ntmps103
  go_upto_region 1 with fail
  refine rp_enter [1, 4, 7] (fun V => ∀ i, V.cell? ⟨w.heap.size, i, none⟩ = #[.int .i64 A, .int .i64 T, .slice a p.length c][i]?) (by kernel_rfl) ?_
  have hS := Lib.hid HZ.out.cell
  apply rp_pure 0 rfl (by kernel_rfl) (fun _ _ _ h => h) rfl
  · (intro W'; go_simp; try rfl)
  · (go_simp; try rfl)
  apply rp_take 1 rfl (by kernel_rfl) (fun _ _ _ h => h) (hS.out) rfl
  · (rintro W' sz; go_simp; try rfl)
  · (go_simp; try rfl)
  apply rp_pure 3 rfl (by kernel_rfl) (fun _ _ _ h => h) rfl
  · (intro W'; go_simp; try rfl)
  · (go_simp; try rfl)
  apply rp_take 4 rfl (by kernel_rfl) (fun _ _ _ h => h) (hS.out) rfl
  · (rintro W' sz; go_simp; try rfl)
  · (go_simp; try rfl)
  apply rp_pure 6 rfl (by kernel_rfl) (fun _ _ _ h => h) rfl
  · (intro W'; go_simp; try rfl)
  · (go_simp; try rfl)
  apply rp_take 7 rfl (by kernel_rfl) (fun _ _ _ h => h) (hS.out) rfl
  · (rintro W' sz; go_simp; try rfl)
  · (go_simp; try rfl)
  refine rp_only 2 (by kernel_rfl) rfl (fun K hK => ?_)
  have hk := Lib.hid (rpart_any (.slice a p.length c) p _ noM (H.out.mono (Keep.below HB.out)) (by have := HP.out; omega))
  go_simp
  ((with_reducible refine hk.out.mono ?_); rintro e w1 ⟨r1, rfl, ho, hBk⟩)
  have O1 := Lib.hid (ho.mono_base (base' := w.heap.size) HB.out.size)
  replace HB := Lib.hid (HB.out.trans (hBk.mono HB.out.size))
  replace HZ := Lib.hid (HZ.out.below hBk)
  clear hBk hk hS ho
  refine hK _ _ ⟨fun _ _ => HZ.out.cell, ?_⟩; clear hK K
  have hS := Lib.hid HZ.out.cell
  refine rp_only 5 (by kernel_rfl) rfl (fun K hK => ?_)
  have hk := Lib.hid (rput2_any r1 (UInt8.ofNat p.length :: p) A w1 (O1.out.sl (fun _ _ h => h)) (by have := HP.out; simp only [List.length_cons]; omega) (by omega))
  go_simp
  ((with_reducible refine hk.out.mono ?_); rintro e w2 ⟨r2, rfl, ho, hBk⟩)
  have O2 := Lib.hid (ho.mono_base (base' := w.heap.size) HB.out.size)
  replace HB := Lib.hid (HB.out.trans (hBk.mono HB.out.size))
  replace HZ := Lib.hid (HZ.out.below hBk)
  clear hBk hk hS ho O1
  refine hK _ _ ⟨fun _ _ => HZ.out.cell, ?_⟩; clear hK K
  have hS := Lib.hid HZ.out.cell
  refine rp_only 8 (by kernel_rfl) rfl (fun K hK => ?_)
  have hk := Lib.hid (rput4_any r2 ((UInt8.ofNat p.length :: p) ++ leB 2 A) T w2 (O2.out.sl (fun _ _ h => h)) (by have := HP.out; simp only [List.length_append, List.length_cons, leB_len]; omega) (by omega))
  go_simp
  ((with_reducible refine hk.out.mono ?_); rintro e w3 ⟨r3, rfl, ho, hBk⟩)
  have O3 := Lib.hid (ho.mono_base (base' := w.heap.size) HB.out.size)
  replace HB := Lib.hid (HB.out.trans (hBk.mono HB.out.size))
  replace HZ := Lib.hid (HZ.out.below hBk)
  clear hBk hk hS ho O2
  refine hK _ _ ⟨fun _ _ => HZ.out.cell, ?_⟩; clear hK K
  have hS := Lib.hid HZ.out.cell
  apply rp_pure 9 rfl (by kernel_rfl) (fun _ _ _ h => h) rfl
  · (intro W'; go_simp; try rfl)
  · (go_simp; try rfl)
  refine rp_done (by kernel_rfl) ?_
  clear hS
  obtain ⟨X3, hX3⟩ : ∃ X3, X3 = ((UInt8.ofNat p.length :: p) ++ leB 2 A) ++ leB 4 T := ⟨_, rfl⟩
  have hl3 : X3.length ≤ 200 := by have := HP.out; rw [hX3]; simp only [List.length_append, List.length_cons, leB_len]; omega
  rw [← hX3] at O3 HE
  have hsm := Lib.hid (rsum_any r3 X3 w3 noM (O3.out.sl (fun _ _ h => h)))
  have hpt := Lib.hid (rput4_any r3 X3 (sumC X3) w3 (O3.out.sl (fun _ _ h => h)) (by omega) (sumC_le X3))
  obtain ⟨C, hC⟩ : ∃ C, C = sumC X3 := ⟨_, rfl⟩
  rw [← hC] at hsm hpt HE
  clear hX3 hC hl3 O3
  go_wp2_with fail
  ((with_reducible refine hsm.out.mono ?_); rintro e w4 ⟨rfl, rfl⟩)
  go_wp2_with fail
  ((with_reducible refine hpt.out.mono ?_); rintro e w5 ⟨r5, rfl, ho5, hB5⟩)
  have HF := Lib.hid (And.intro (ho5.mono_base (base' := w.heap.size) HB.out.size) (HB.out.trans (hB5.mono HB.out.size)))
  clear ho5 hB5 hpt hsm
  go_wp2
  go_ret
  rw [HE.out]
  exact ⟨_, rfl, HF.out.1, HF.out.2⟩

set_option maxRecDepth 100000 in
set_option maxHeartbeats 4000000 in
theorem rcellB_any (A T : Nat) (v : Value) (p : List UInt8) (w : World) (Mi : Ms) (h : SlR w Mi v p) (hA : A ≤ 65535) (hT : T ≤ 4294967295) (hp : p.length ≤ 96) :
    Calls Tryd.prog 85 #[.int .i64 A, .int .i64 T, v] w fun e w' => ∃ r, e = .returned r ∧ OwR w' noM w.heap.size 5 r (sealB A T p) ∧ Below w.heap.size w w' := by
  obtain ⟨a, c, rfl⟩ := h.form
  have hse := Lib.hid (rseal_any A T (.slice a p.length c) p w Mi h hA hT hp)
  clear h
  go_enter Tryd.func85, Tryd.ntmps85
  go_wp2_with fail
  ((with_reducible refine hse.out.mono ?_); rintro e w1 ⟨r1, rfl, ho1, hB1⟩)
  have HF := Lib.hid (And.intro ho1 hB1)
  clear ho1 hB1 hse
  go_wp2
  go_ret
  exact ⟨_, rfl, HF.out.1, HF.out.2⟩
end Go.Proofs.YteecmgonbdbhdaaDoor
end

/-
The reference: a record's bytes, a record's cell.
-/
section
namespace Go.Proofs.YteecmgonbdbhdaaDoor
open Go.RowKit
attribute [local go_sem ↓] Go.wp_at_zero Go.wp_at_succ

theorem recB_lit (K S E A O : Nat) (x : Img) : recB ⟨K, S, E, A, O, x⟩ = (([UInt8.ofNat (K % 256)] ++ leB 4 S) ++ leB 4 E) ++ [UInt8.ofNat (A % 256), UInt8.ofNat (O % 256)] ++ (if (K : Int) = 1 then imgB x else []) := by
  rw [recB]
  simp [numsOf, szR, rowB, leB]
theorem imgB_lit (Z W : Nat) (x : Img) (hz : x.zone = Z) (hw : whatB x.what = W) : imgB x = [UInt8.ofNat (Z % 256), UInt8.ofNat (W % 256)] ++ (UInt8.ofNat x.bytes.length :: x.bytes) := by
  rw [imgB, hz, hw]
  simp [rowB, leB]
theorem u8_lit (k : Nat) (h : k < 256) : ((UInt8.ofNat k).toNat : Int) = (k : Int) := by rw [UInt8.toNat_ofNat_of_lt' h]
theorem wrap8 (k : Nat) : IntKind.u8.wrap (k : Int) = ((k % 256 : Nat) : Int) := by rw [IntKind.wrap_u8]; omega
theorem OwR.lit1 (w : World) (k : Nat) (h : k < 256) : OwR (w.alloc (.cells #[.int .u8 (k : Int)] 5)) noM w.heap.size 5 (.slice (some ⟨w.heap.size, 0, none⟩) 1 1) [UInt8.ofNat k] := by
  have hL := OwR.litB w noM [UInt8.ofNat k] (by simp)
  simpa only [List.map_cons, List.map_nil, u8_lit k h, List.length_cons, List.length_nil] using hL
theorem OwR.lit2 (w : World) (k m : Nat) (h : k < 256) (h' : m < 256) : OwR (w.alloc (.cells #[.int .u8 (k : Int), .int .u8 (m : Int)] 5)) noM w.heap.size 5 (.slice (some ⟨w.heap.size, 0, none⟩) 2 2) [UInt8.ofNat k, UInt8.ofNat m] := by
  have hL := OwR.litB w noM [UInt8.ofNat k, UInt8.ofNat m] (by simp)
  simpa only [List.map_cons, List.map_nil, u8_lit k h, u8_lit m h', List.length_cons, List.length_nil] using hL
/-- The numbers of a right record. -/
theorem okR_nat {g : Geo} {r : Rc} (h : okR g r = true) : ∃ K S E A O : Nat, r.kind = K ∧ r.seq = S ∧ r.epoch = E ∧ r.at_ = A ∧ r.of_ = O ∧ S ≤ 4294967295 ∧ E ≤ 4294967295 := by
  obtain ⟨-, h⟩ := okR_parts h
  refine ⟨r.kind.toNat, r.seq.toNat, r.epoch.toNat, r.at_.toNat, r.of_.toNat, ?_⟩
  rcases h with h | h | h <;> omega
theorem okR_img {g : Geo} {r : Rc} (h : okR g r = true) (hk : r.kind = 1) : ∃ Z W : Nat, r.img.zone = Z ∧ whatB r.img.what = W ∧ Z ≤ 3 ∧ r.img.bytes.length ≤ 255 := by
  have hb := recB_short h
  rw [recB_len h, if_pos hk] at hb
  obtain ⟨hg, h⟩ := okR_parts h
  obtain ⟨hz, hd, -⟩ := okG_iff.1 hg
  rcases h with h | ⟨-, -, -, -, -, h⟩ | h
  · omega
  · obtain ⟨-, h1, h2⟩ := imgOk_parts h
    refine ⟨r.img.zone.toNat, (whatB r.img.what).toNat, by omega, ?_, by omega, by omega⟩
    unfold whatB
    split
    · rfl
    · rcases h2 with ⟨h3, -⟩ | ⟨-, h3, -⟩ <;> omega
  · omega

set_option maxRecDepth 100000 in
set_option maxHeartbeats 16000000 in
theorem rrecB_any (g : Geo) (r : Rc) (v : Value) (w : World) (Mi : Ms) (h : SlR w Mi v r.img.bytes) (hok : okR g r = true) :
    Calls Tryd.prog 86 #[rv r v] w fun e w' => ∃ x, e = .returned x ∧ OwR w' noM w.heap.size 5 x (recB r) ∧ Below w.heap.size w w' := by
  obtain ⟨kind, seq, epoch, at_, of_, ⟨zone, what, bytes⟩⟩ := r
  obtain ⟨K, S, E, A, O, e1, e2, e3, e4, e5, hS4, hE4⟩ := okR_nat hok
  simp only at e1 e2 e3 e4 e5 h
  subst e1 e2 e3 e4 e5
  obtain ⟨a, c, rfl⟩ := h.form
  have hb0 := (Below.refl w.heap.size w).alloc (Nat.le_refl _) (.cells #[.int .i64 K, .int .i64 S, .int .i64 E, .int .i64 A, .int .i64 O, .int .i64 zone, .int .i64 what, .slice a bytes.length c] 34)
  have HB := Lib.hid hb0.drew
  have HZ := Lib.hid (Blk.new w 34 #[.int .i64 K, .int .i64 S, .int .i64 E, .int .i64 A, .int .i64 O, .int .i64 zone, .int .i64 what, .slice a bytes.length c]).drew
  have H := Lib.hid h.bare
  have HR := Lib.hid (recB_lit K S E A O ⟨zone, what, bytes⟩)
  have HOK := Lib.hid hok
  have hwK := wrap8 K
  have hwA := wrap8 A
  have hwO := wrap8 O
  have hk8 : K % 256 < 256 := Nat.mod_lt _ (by decide)
  have ha8 : A % 256 < 256 := Nat.mod_lt _ (by decide)
  have ho8 : O % 256 < 256 := Nat.mod_lt _ (by decide)
  obtain ⟨k8, hk8e⟩ : ∃ k8, k8 = K % 256 := ⟨_, rfl⟩
  obtain ⟨a8, ha8e⟩ : ∃ a8, a8 = A % 256 := ⟨_, rfl⟩
  obtain ⟨o8, ho8e⟩ : ∃ o8, o8 = O % 256 := ⟨_, rfl⟩
  rw [← hk8e, ← ha8e, ← ho8e] at HR
  rw [← hk8e] at hwK hk8
  rw [← ha8e] at hwA ha8
  rw [← ho8e] at hwO ho8
  clear hk8e ha8e ho8e
  unfold rv
  simp only
  clear hb0 h hok
  go_enter Tryd.func86, Tryd.ntmps86
  go_upto_region 1 with fail
  refine rp_enter [1, 5, 8] (fun V => ∀ i, V.cell? ⟨w.heap.size, i, none⟩ = #[.int .i64 K, .int .i64 S, .int .i64 E, .int .i64 A, .int .i64 O, .int .i64 zone, .int .i64 what, .slice a bytes.length c][i]?) (by kernel_rfl) ?_
  obtain ⟨w0, hw0⟩ : ∃ w0, w0 = (w.alloc (.cells #[.int .i64 K, .int .i64 S, .int .i64 E, .int .i64 A, .int .i64 O, .int .i64 zone, .int .i64 what, .slice a bytes.length c] 34)).drew := ⟨_, rfl⟩
  rw [← hw0] at HB HZ ⊢
  clear hw0
  have hS := Lib.hid HZ.out.cell
  apply rp_pure 0 rfl (by kernel_rfl) (fun _ _ _ h => h) rfl
  · (intro W'; go_simp; try rfl)
  · (go_simp; try rfl)
  apply rp_take 1 rfl (by kernel_rfl) (fun _ _ _ h => h) (hS.out) rfl
  · (rintro W' sz; go_simp; try rfl)
  · (go_simp; try rfl)
  apply rp_pure 2 rfl (by kernel_rfl) (fun _ _ _ h => h) rfl
  · (intro W'; go_simp; try rfl)
  · (go_simp; try rfl)
  apply rp_pure 4 rfl (by kernel_rfl) (fun _ _ _ h => h) rfl
  · (intro W'; go_simp; try rfl)
  · (go_simp; try rfl)
  apply rp_take 5 rfl (by kernel_rfl) (fun _ _ _ h => h) (hS.out) rfl
  · (rintro W' sz; go_simp; try rfl)
  · (go_simp; try rfl)
  apply rp_pure 7 rfl (by kernel_rfl) (fun _ _ _ h => h) rfl
  · (intro W'; go_simp; try rfl)
  · (go_simp; try rfl)
  apply rp_take 8 rfl (by kernel_rfl) (fun _ _ _ h => h) (hS.out) rfl
  · (rintro W' sz; go_simp; try rfl)
  · (go_simp; try rfl)
  refine rp_only 3 (by kernel_rfl) rfl (fun KK hK => ?_)
  go_simp
  have hBk := (Below.refl w0.heap.size w0).alloc (Nat.le_refl _) (.cells #[.int .u8 (k8 : Int)] 5)
  have O1 := Lib.hid ((OwR.lit1 w0 k8 hk8).mono_base (base' := w.heap.size) HB.out.size)
  replace HB := Lib.hid (HB.out.trans (hBk.mono HB.out.size))
  replace HZ := Lib.hid (HZ.out.below hBk)
  clear hBk hS
  refine hK _ _ ⟨fun _ _ => HZ.out.cell, ?_⟩; clear hK KK
  have hS := Lib.hid HZ.out.cell
  refine rp_only 6 (by kernel_rfl) rfl (fun KK hK => ?_)
  have hk := Lib.hid (rput4_any _ [UInt8.ofNat k8] S _ (O1.out.sl (fun _ _ h => h)) (by simp) (by omega))
  go_simp
  ((with_reducible refine hk.out.mono ?_); rintro e w2 ⟨r2, rfl, ho, hBk⟩)
  have O2 := Lib.hid (ho.mono_base (base' := w.heap.size) HB.out.size)
  replace HB := Lib.hid (HB.out.trans (hBk.mono HB.out.size))
  replace HZ := Lib.hid (HZ.out.below hBk)
  clear hBk hk hS ho O1
  refine hK _ _ ⟨fun _ _ => HZ.out.cell, ?_⟩; clear hK KK
  have hS := Lib.hid HZ.out.cell
  refine rp_only 9 (by kernel_rfl) rfl (fun KK hK => ?_)
  have hk := Lib.hid (rput4_any r2 ([UInt8.ofNat k8] ++ leB 4 S) E w2 (O2.out.sl (fun _ _ h => h)) (by simp [leB_len]) (by omega))
  go_simp
  ((with_reducible refine hk.out.mono ?_); rintro e w3 ⟨r3, rfl, ho, hBk⟩)
  have O3 := Lib.hid (ho.mono_base (base' := w.heap.size) HB.out.size)
  replace HB := Lib.hid (HB.out.trans (hBk.mono HB.out.size))
  replace HZ := Lib.hid (HZ.out.below hBk)
  clear hBk hk hS ho O2
  refine hK _ _ ⟨fun _ _ => HZ.out.cell, ?_⟩; clear hK KK
  have hS := Lib.hid HZ.out.cell
  apply rp_pure 10 rfl (by kernel_rfl) (fun _ _ _ h => h) rfl
  · (intro W'; go_simp; try rfl)
  · (go_simp; try rfl)
  refine rp_done (by kernel_rfl) ?_
  clear hS
  obtain ⟨X3, hX3⟩ : ∃ X3, X3 = ([UInt8.ofNat k8] ++ leB 4 S) ++ leB 4 E := ⟨_, rfl⟩
  have hl3s : X3.length ≤ 20 := by rw [hX3]; simp [leB_len]
  have hl3 : X3.length + [UInt8.ofNat a8, UInt8.ofNat o8].length ≤ 1000000000 := by simp only [List.length_cons, List.length_nil]; omega
  rw [← hX3] at O3 HR
  clear hX3
  have hbA := (Below.refl w3.heap.size w3).alloc (Nat.le_refl _) (.cells #[.int .u8 (a8 : Int), .int .u8 (o8 : Int)] 5)
  have hown : ∀ b, r3.ownBlock = some b → b < w3.heap.size := fun b e => O3.out.own_lt e
  have hS4 := Lib.hid ((OwR.lit2 w3 a8 o8 ha8 ho8).sl (M := fun b => noM b ∨ r3.ownBlock = some b) (fun b hb hm => hm.elim (fun h => h) (fun h => by have := hown b h; omega)))
  have O3' := Lib.hid (O3.out.below hbA)
  have HB4 := Lib.hid (HB.out.trans (hbA.mono HB.out.size))
  have HZ4 := Lib.hid (HZ.out.below hbA)
  obtain ⟨z1, z2, z3⟩ := HZ.out.all
  clear hown hbA HB O3
  go_upto_region 3 with (at_builtin; go_must (refine wpList_append_R (α := UInt8) (M := noM) (base := w.heap.size) (l := X3) (m := [UInt8.ofNat a8, UInt8.ofNat o8]) rfl (by rfl) tyB (by rfl) O3'.out (by rfl) hS4.out hl3 HB4.out.size ?_); clear z1 z2 z3; intro r5 w5 ho5 hg5 hat5)
  have HB5 := Lib.hid (HB4.out.grown hg5 HB4.out.size (fun b e => O3'.out.own_ge e))
  have HZ5 := Lib.hid (HZ4.out.grown hg5 (fun e => O3'.out.ne_ HZ4.out (by decide) e.symm))
  obtain ⟨X5, hX5⟩ : ∃ X5, X5 = X3 ++ [UInt8.ofNat a8, UInt8.ofNat o8] := ⟨_, rfl⟩
  have hl5 : X5.length ≤ 1000000 := by rw [hX5, List.length_append]; simp only [List.length_cons, List.length_nil]; omega
  rw [← hX5] at ho5 HR
  have O5 := Lib.hid ho5
  clear hX5 ho5 hg5 hat5 HB4 HZ4 hS4 O3' HZ hl3
  by_cases hk1 : K = 1
  case neg =>
    have hk1' : ((K : Int) != 1) = true := by simp only [bne_iff_ne, ne_eq]; omega
    rw [if_neg (by omega), List.append_nil] at HR
    obtain ⟨z1, z2, z3⟩ := HZ5.out.all
    clear hk1
    go_wp2
    go_ret
    rw [HR.out]
    exact ⟨_, rfl, O5.out, HB5.out⟩
  obtain ⟨ZN, W, hz, hww, hz3, hbl⟩ := okR_img HOK.out (show (K : Int) = 1 by omega)
  simp only at hz hww hbl
  subst hz
  rw [if_pos (show (K : Int) = 1 by omega), imgB_lit ZN W _ rfl hww] at HR
  have hwZ := wrap8 ZN
  have hwW := wrap8 W
  have hz8 : ZN % 256 < 256 := Nat.mod_lt _ (by decide)
  have hw8 : W % 256 < 256 := Nat.mod_lt _ (by decide)
  obtain ⟨z8, hz8e⟩ : ∃ z8, z8 = ZN % 256 := ⟨_, rfl⟩
  obtain ⟨n8, hn8e⟩ : ∃ n8, n8 = W % 256 := ⟨_, rfl⟩
  rw [← hz8e, ← hn8e] at HR
  rw [← hz8e] at hwZ hz8
  rw [← hn8e] at hwW hw8
  clear hz8e hn8e
  simp only at HR
  unfold whatB at hww
  by_cases hwh : what = -1
  · skip
    subst hwh
    rw [if_pos rfl] at hww
    obtain rfl : W = 254 := by omega
    have hwW' : IntKind.u8.wrap 254 = (n8 : Int) := hwW
    clear hww hwW
    have hone : ((K : Int) != 1) = false := by subst hk1; decide
    clear hk1
    obtain ⟨z1, z2, z3⟩ := HZ5.out.all
    go_upto_region 8 with fail
    clear z1 z2 z3
    have HZ := Lib.hid HZ5.out.drew
    have HB := Lib.hid HB5.out.drew
    have HO := Lib.hid O5.out.drew
    clear HZ5 HB5 O5
    refine rp_enter [3, 11] (fun V => ∀ i, V.cell? ⟨w.heap.size, i, none⟩ = #[.int .i64 K, .int .i64 S, .int .i64 E, .int .i64 A, .int .i64 O, .int .i64 ZN, .int .i64 (-1), .slice a bytes.length c][i]?) (by kernel_rfl) ?_
    obtain ⟨w6, hw6⟩ : ∃ w6, w6 = w5.drew := ⟨_, rfl⟩
    rw [← hw6] at HB HZ HO ⊢
    clear hw6
    have hS := Lib.hid HZ.out.cell
    apply rp_pure 0 rfl (by kernel_rfl) (fun _ _ _ h => h) rfl
    · (intro W'; go_simp; try rfl)
    · (go_simp; try rfl)
    apply rp_pure 1 rfl (by kernel_rfl) (fun _ _ _ h => h) rfl
    · (intro W'; go_simp; try rfl)
    · (go_simp; try rfl)
    apply rp_pure 2 rfl (by kernel_rfl) (fun _ _ _ h => h) rfl
    · (intro W'; go_simp; try rfl)
    · (go_simp; try rfl)
    apply rp_take 3 rfl (by kernel_rfl) (fun _ _ _ h => h) (hS.out) rfl
    · (rintro W' sz; go_simp; try rfl)
    · (go_simp; try rfl)
    apply rp_pure 4 rfl (by kernel_rfl) (fun _ _ _ h => h) rfl
    · (intro W'; go_simp; try rfl)
    · (go_simp; try rfl)
    apply rp_pure 5 rfl (by kernel_rfl) (fun _ _ _ h => h) rfl
    · (intro W'; go_simp; try rfl)
    · (go_simp; try rfl)
    apply rp_pure 6 rfl (by kernel_rfl) (fun _ _ _ h => h) rfl
    · (intro W'; go_simp; try rfl)
    · (go_simp; try rfl)
    apply rp_pure 9 rfl (by kernel_rfl) (fun _ _ _ h => h) rfl
    · (intro W'; go_simp; try rfl)
    · (go_simp; try rfl)
    apply rp_pure 10 rfl (by kernel_rfl) (fun _ _ _ h => h) rfl
    · (intro W'; go_simp; try rfl)
    · (go_simp; try rfl)
    apply rp_take 11 rfl (by kernel_rfl) (fun _ _ _ h => h) (hS.out) rfl
    · (rintro W' sz; go_simp; try rfl)
    · (go_simp; try rfl)
    refine rp_only 7 (by kernel_rfl) rfl (fun KK hK => ?_)
    go_simp
    have hBk := (Below.refl w6.heap.size w6).alloc (Nat.le_refl _) (.cells #[.int .u8 (z8 : Int), .int .u8 (n8 : Int)] 5)
    have hown : ∀ b, r5.ownBlock = some b → b < w6.heap.size := fun b e => HO.out.own_lt e
    have hS4 := Lib.hid ((OwR.lit2 w6 z8 n8 hz8 hw8).sl (M := fun b => noM b ∨ r5.ownBlock = some b) (fun b hb hm => hm.elim (fun h => h) (fun h => by have := hown b h; omega)))
    replace HO := Lib.hid (HO.out.below hBk)
    replace HB := Lib.hid (HB.out.trans (hBk.mono HB.out.size))
    replace HZ := Lib.hid (HZ.out.below hBk)
    clear hBk hS hown
    refine hK _ _ ⟨fun _ _ => HZ.out.cell, ?_⟩; clear hK KK
    have hS := Lib.hid HZ.out.cell
    refine rp_only 8 (by kernel_rfl) rfl (fun KK hK => ?_)
    refine step_append_R (α := UInt8) (M := noM) (base := w.heap.size) (l := X5) (m := [UInt8.ofNat z8, UInt8.ofNat n8]) rfl (by rfl) tyB (by rfl) HO.out (by rfl) hS4.out (by simp only [List.length_cons, List.length_nil]; omega) HB.out.size ?_
    intro r7 w7 ho7 hg7 hat7
    replace HB := Lib.hid (HB.out.grown hg7 HB.out.size (fun b e => HO.out.own_ge e))
    replace HZ := Lib.hid (HZ.out.grown hg7 (fun e => HO.out.ne_ HZ.out (by decide) e.symm))
    have HO7 := Lib.hid ho7
    clear hS4 HO ho7 hg7 hat7 hS
    refine hK _ _ ⟨fun _ _ => HZ.out.cell, ?_⟩; clear hK KK
    have hS := Lib.hid HZ.out.cell
    refine rp_only 12 (by kernel_rfl) rfl (fun KK hK => ?_)
    have hk := Lib.hid (rpart_any (.slice a bytes.length c) bytes w7 noM (H.out.mono (Keep.below HB.out)) hbl)
    go_simp
    ((with_reducible refine hk.out.mono ?_); rintro e w8 ⟨r8, rfl, ho, hBk⟩)
    have hown : ∀ b, r7.ownBlock = some b → b < w7.heap.size := fun b e => HO7.out.own_lt e
    have hS8 := Lib.hid (ho.sl (M := fun b => noM b ∨ r7.ownBlock = some b) (fun b hb hm => hm.elim (fun h => h) (fun h => by have := hown b h; omega)))
    have HO8 := Lib.hid (HO7.out.below hBk)
    replace HB := Lib.hid (HB.out.trans (hBk.mono HB.out.size))
    replace HZ := Lib.hid (HZ.out.below hBk)
    clear hBk hk hS ho hown HO7
    refine hK _ _ ⟨fun _ _ => HZ.out.cell, ?_⟩; clear hK KK
    have hS := Lib.hid HZ.out.cell
    refine rp_only 13 (by kernel_rfl) rfl (fun KK hK => ?_)
    refine step_append_R (α := UInt8) (M := noM) (base := w.heap.size) (l := X5 ++ [UInt8.ofNat z8, UInt8.ofNat n8]) (m := UInt8.ofNat bytes.length :: bytes) rfl (by rfl) tyB (by rfl) HO8.out (by rfl) hS8.out (by simp only [List.length_append, List.length_cons, List.length_nil]; omega) HB.out.size ?_
    intro r9 w9 ho9 hg9 hat9
    replace HB := Lib.hid (HB.out.grown hg9 HB.out.size (fun b e => HO8.out.own_ge e))
    replace HZ := Lib.hid (HZ.out.grown hg9 (fun e => HO8.out.ne_ HZ.out (by decide) e.symm))
    have HO9 := Lib.hid ho9
    clear hS8 HO8 ho9 hg9 hat9 hS
    refine hK _ _ ⟨fun _ _ => HZ.out.cell, ?_⟩; clear hK KK
    have hS := Lib.hid HZ.out.cell
    apply rp_pure 14 rfl (by kernel_rfl) (fun _ _ _ h => h) rfl
    · (intro W'; go_simp; try rfl)
    · (go_simp; try rfl)
    refine rp_done (by kernel_rfl) ?_
    clear hS
    go_wp2
    go_ret
    have hf := HO9.out
    rw [List.append_assoc, ← HR.out] at hf
    exact ⟨_, rfl, hf, HB.out⟩
  · skip
    rw [if_neg hwh] at hww
    subst hww
    have hwh' : ((W : Int) == -1) = false := beq_eq_false_iff_ne.2 hwh
    clear hwh
    have hone : ((K : Int) != 1) = false := by subst hk1; decide
    clear hk1
    obtain ⟨z1, z2, z3⟩ := HZ5.out.all
    go_upto_region 8 with fail
    clear z1 z2 z3
    have HZ := Lib.hid HZ5.out.drew
    have HB := Lib.hid HB5.out.drew
    have HO := Lib.hid O5.out.drew
    clear HZ5 HB5 O5
    refine rp_enter [3, 11] (fun V => ∀ i, V.cell? ⟨w.heap.size, i, none⟩ = #[.int .i64 K, .int .i64 S, .int .i64 E, .int .i64 A, .int .i64 O, .int .i64 ZN, .int .i64 W, .slice a bytes.length c][i]?) (by kernel_rfl) ?_
    obtain ⟨w6, hw6⟩ : ∃ w6, w6 = w5.drew := ⟨_, rfl⟩
    rw [← hw6] at HB HZ HO ⊢
    clear hw6
    have hS := Lib.hid HZ.out.cell
    apply rp_pure 0 rfl (by kernel_rfl) (fun _ _ _ h => h) rfl
    · (intro W'; go_simp; try rfl)
    · (go_simp; try rfl)
    apply rp_pure 1 rfl (by kernel_rfl) (fun _ _ _ h => h) rfl
    · (intro W'; go_simp; try rfl)
    · (go_simp; try rfl)
    apply rp_pure 2 rfl (by kernel_rfl) (fun _ _ _ h => h) rfl
    · (intro W'; go_simp; try rfl)
    · (go_simp; try rfl)
    apply rp_take 3 rfl (by kernel_rfl) (fun _ _ _ h => h) (hS.out) rfl
    · (rintro W' sz; go_simp; try rfl)
    · (go_simp; try rfl)
    apply rp_pure 4 rfl (by kernel_rfl) (fun _ _ _ h => h) rfl
    · (intro W'; go_simp; try rfl)
    · (go_simp; try rfl)
    apply rp_pure 5 rfl (by kernel_rfl) (fun _ _ _ h => h) rfl
    · (intro W'; go_simp; try rfl)
    · (go_simp; try rfl)
    apply rp_pure 6 rfl (by kernel_rfl) (fun _ _ _ h => h) rfl
    · (intro W'; go_simp; try rfl)
    · (go_simp; try rfl)
    apply rp_pure 9 rfl (by kernel_rfl) (fun _ _ _ h => h) rfl
    · (intro W'; go_simp; try rfl)
    · (go_simp; try rfl)
    apply rp_pure 10 rfl (by kernel_rfl) (fun _ _ _ h => h) rfl
    · (intro W'; go_simp; try rfl)
    · (go_simp; try rfl)
    apply rp_take 11 rfl (by kernel_rfl) (fun _ _ _ h => h) (hS.out) rfl
    · (rintro W' sz; go_simp; try rfl)
    · (go_simp; try rfl)
    refine rp_only 7 (by kernel_rfl) rfl (fun KK hK => ?_)
    go_simp
    have hBk := (Below.refl w6.heap.size w6).alloc (Nat.le_refl _) (.cells #[.int .u8 (z8 : Int), .int .u8 (n8 : Int)] 5)
    have hown : ∀ b, r5.ownBlock = some b → b < w6.heap.size := fun b e => HO.out.own_lt e
    have hS4 := Lib.hid ((OwR.lit2 w6 z8 n8 hz8 hw8).sl (M := fun b => noM b ∨ r5.ownBlock = some b) (fun b hb hm => hm.elim (fun h => h) (fun h => by have := hown b h; omega)))
    replace HO := Lib.hid (HO.out.below hBk)
    replace HB := Lib.hid (HB.out.trans (hBk.mono HB.out.size))
    replace HZ := Lib.hid (HZ.out.below hBk)
    clear hBk hS hown
    refine hK _ _ ⟨fun _ _ => HZ.out.cell, ?_⟩; clear hK KK
    have hS := Lib.hid HZ.out.cell
    refine rp_only 8 (by kernel_rfl) rfl (fun KK hK => ?_)
    refine step_append_R (α := UInt8) (M := noM) (base := w.heap.size) (l := X5) (m := [UInt8.ofNat z8, UInt8.ofNat n8]) rfl (by rfl) tyB (by rfl) HO.out (by rfl) hS4.out (by simp only [List.length_cons, List.length_nil]; omega) HB.out.size ?_
    intro r7 w7 ho7 hg7 hat7
    replace HB := Lib.hid (HB.out.grown hg7 HB.out.size (fun b e => HO.out.own_ge e))
    replace HZ := Lib.hid (HZ.out.grown hg7 (fun e => HO.out.ne_ HZ.out (by decide) e.symm))
    have HO7 := Lib.hid ho7
    clear hS4 HO ho7 hg7 hat7 hS
    refine hK _ _ ⟨fun _ _ => HZ.out.cell, ?_⟩; clear hK KK
    have hS := Lib.hid HZ.out.cell
    refine rp_only 12 (by kernel_rfl) rfl (fun KK hK => ?_)
    have hk := Lib.hid (rpart_any (.slice a bytes.length c) bytes w7 noM (H.out.mono (Keep.below HB.out)) hbl)
    go_simp
    ((with_reducible refine hk.out.mono ?_); rintro e w8 ⟨r8, rfl, ho, hBk⟩)
    have hown : ∀ b, r7.ownBlock = some b → b < w7.heap.size := fun b e => HO7.out.own_lt e
    have hS8 := Lib.hid (ho.sl (M := fun b => noM b ∨ r7.ownBlock = some b) (fun b hb hm => hm.elim (fun h => h) (fun h => by have := hown b h; omega)))
    have HO8 := Lib.hid (HO7.out.below hBk)
    replace HB := Lib.hid (HB.out.trans (hBk.mono HB.out.size))
    replace HZ := Lib.hid (HZ.out.below hBk)
    clear hBk hk hS ho hown HO7
    refine hK _ _ ⟨fun _ _ => HZ.out.cell, ?_⟩; clear hK KK
    have hS := Lib.hid HZ.out.cell
    refine rp_only 13 (by kernel_rfl) rfl (fun KK hK => ?_)
    refine step_append_R (α := UInt8) (M := noM) (base := w.heap.size) (l := X5 ++ [UInt8.ofNat z8, UInt8.ofNat n8]) (m := UInt8.ofNat bytes.length :: bytes) rfl (by rfl) tyB (by rfl) HO8.out (by rfl) hS8.out (by simp only [List.length_append, List.length_cons, List.length_nil]; omega) HB.out.size ?_
    intro r9 w9 ho9 hg9 hat9
    replace HB := Lib.hid (HB.out.grown hg9 HB.out.size (fun b e => HO8.out.own_ge e))
    replace HZ := Lib.hid (HZ.out.grown hg9 (fun e => HO8.out.ne_ HZ.out (by decide) e.symm))
    have HO9 := Lib.hid ho9
    clear hS8 HO8 ho9 hg9 hat9 hS
    refine hK _ _ ⟨fun _ _ => HZ.out.cell, ?_⟩; clear hK KK
    have hS := Lib.hid HZ.out.cell
    apply rp_pure 14 rfl (by kernel_rfl) (fun _ _ _ h => h) rfl
    · (intro W'; go_simp; try rfl)
    · (go_simp; try rfl)
    refine rp_done (by kernel_rfl) ?_
    clear hS
    go_wp2
    go_ret
    have hf := HO9.out
    rw [List.append_assoc, ← HR.out] at hf
    exact ⟨_, rfl, hf, HB.out⟩
end Go.Proofs.YteecmgonbdbhdaaDoor
end

/-
The reference: a record's cell.
-/
section
namespace Go.Proofs.YteecmgonbdbhdaaDoor
open Go.RowKit
attribute [local go_sem ↓] Go.wp_at_zero Go.wp_at_succ

set_option maxRecDepth 100000 in
set_option maxHeartbeats 16000000 in
theorem rrecCell_any (g : Geo) (r : Rc) (v : Value) (copy slot : Int) (w : World) (Mi : Ms) (h : SlR w Mi v r.img.bytes) (hok : okR g r = true) (hl : okL g copy slot = true) :
    Calls Tryd.prog 56 #[gv g, rv r v, .int .i64 copy, .int .i64 slot] w fun e w' => ∃ x, e = .returned x ∧ OwR w' noM w.heap.size 5 x (cellB g r copy slot) ∧ Below w.heap.size w w' := by
  obtain ⟨kind, seq, epoch, at_, of_, ⟨zone, what, bytes⟩⟩ := r
  obtain ⟨z, d, sp, sl, an⟩ := g
  have hsq := okR_seq hok
  obtain ⟨S, hS0⟩ : ∃ S : Nat, seq = S := ⟨seq.toNat, by simp only at hsq; omega⟩
  simp only at hsq h
  subst hS0
  have hS9 : S ≤ 4294967295 := by omega
  obtain ⟨a, c, rfl⟩ := h.form
  have hgk := (okR_parts hok).1
  have hab := logAt_bounds hgk hl
  have hsh := (recB_short hok).2
  obtain ⟨A0, hA0⟩ : ∃ A0 : Nat, logAt ⟨z, d, sp, sl, an⟩ copy slot = A0 := ⟨(logAt ⟨z, d, sp, sl, an⟩ copy slot).toNat, by omega⟩
  have HE := Lib.hid (show cellB ⟨z, d, sp, sl, an⟩ ⟨kind, S, epoch, at_, of_, ⟨zone, what, bytes⟩⟩ copy slot = sealB A0 S (recB ⟨kind, S, epoch, at_, of_, ⟨zone, what, bytes⟩⟩) by rw [← hA0]; rfl)
  have hA9 : A0 ≤ 65535 := by omega
  have hb1 := (Below.refl w.heap.size w).alloc (Nat.le_refl _) (.cells #[.int .i64 z, .int .i64 d, .int .i64 sp, .int .i64 sl, .int .i64 an] 23)
  have hb2 := hb1.alloc (by simp) (.cells #[.int .i64 kind, .int .i64 S, .int .i64 epoch, .int .i64 at_, .int .i64 of_, .int .i64 zone, .int .i64 what, .slice a bytes.length c] 34)
  have hT := Blk.new (w.alloc (.cells #[.int .i64 z, .int .i64 d, .int .i64 sp, .int .i64 sl, .int .i64 an] 23)) 34 #[.int .i64 kind, .int .i64 S, .int .i64 epoch, .int .i64 at_, .int .i64 of_, .int .i64 zone, .int .i64 what, .slice a bytes.length c]
  simp only [World.size_alloc] at hT
  have HG := Lib.hid ((Blk.new w 23 #[.int .i64 z, .int .i64 d, .int .i64 sp, .int .i64 sl, .int .i64 an]).alloc (.cells #[.int .i64 kind, .int .i64 S, .int .i64 epoch, .int .i64 at_, .int .i64 of_, .int .i64 zone, .int .i64 what, .slice a bytes.length c] 34)).drew
  have HB := Lib.hid hb2.drew
  have HT := Lib.hid hT.drew
  have H := Lib.hid h.bare
  have HOK := Lib.hid hok
  have hlg := Lib.hid (fun w' => rlogAt_any ⟨z, d, sp, sl, an⟩ copy slot w' hgk hl)
  rw [hA0] at hlg
  unfold gv at hlg
  unfold gv rv
  simp only at hlg ⊢
  clear hb1 hb2 hT h hok hgk hab hl hA0 hsq
  go_enter Tryd.func56, Tryd.ntmps56
  go_upto_region 1 with fail
  refine rp_enter [0, 5, 6] (fun V => (∀ i, V.cell? ⟨w.heap.size, i, none⟩ = #[.int .i64 z, .int .i64 d, .int .i64 sp, .int .i64 sl, .int .i64 an][i]?) ∧ (∀ i, V.cell? ⟨w.heap.size + 1, i, none⟩ = #[.int .i64 kind, .int .i64 S, .int .i64 epoch, .int .i64 at_, .int .i64 of_, .int .i64 zone, .int .i64 what, .slice a bytes.length c][i]?)) (by kernel_rfl) ?_
  have hS := Lib.hid (And.intro HG.out.cell HT.out.cell)
  apply rp_take 0 rfl (by kernel_rfl) (fun _ _ _ h => h) (hS.out) rfl
  · (rintro W' ⟨sg, st⟩; go_simp; try rfl)
  · (go_simp; try rfl)
  apply rp_pure 1 rfl (by kernel_rfl) (fun _ _ _ h => h) rfl
  · (intro W'; go_simp; try rfl)
  · (go_simp; try rfl)
  apply rp_pure 2 rfl (by kernel_rfl) (fun _ _ _ h => h) rfl
  · (intro W'; go_simp; try rfl)
  · (go_simp; try rfl)
  apply rp_pure 4 rfl (by kernel_rfl) (fun _ _ _ h => h) rfl
  · (intro W'; go_simp; try rfl)
  · (go_simp; try rfl)
  apply rp_take 5 rfl (by kernel_rfl) (fun _ _ _ h => h) (hS.out) rfl
  · (rintro W' ⟨sg, st⟩; go_simp; try rfl)
  · (go_simp; try rfl)
  apply rp_take 6 rfl (by kernel_rfl) (fun _ _ _ h => h) (hS.out) rfl
  · (rintro W' ⟨sg, st⟩; go_simp; try rfl)
  · (go_simp; try rfl)
  refine rp_only 3 (by kernel_rfl) rfl (fun KK hK => ?_)
  go_simp
  ((with_reducible refine (hlg.out _).mono ?_); rintro e w1 ⟨rfl, hBk⟩)
  replace HB := Lib.hid (HB.out.trans (hBk.mono HB.out.size))
  replace HG := Lib.hid (HG.out.below hBk)
  replace HT := Lib.hid (HT.out.below hBk)
  clear hBk hlg hS
  refine hK _ _ ⟨fun _ _ => ⟨HG.out.cell, HT.out.cell⟩, ?_⟩; clear hK KK
  have hS := Lib.hid (And.intro HG.out.cell HT.out.cell)
  refine rp_only 7 (by kernel_rfl) rfl (fun KK hK => ?_)
  have hk := Lib.hid (rrecB_any ⟨z, d, sp, sl, an⟩ ⟨kind, S, epoch, at_, of_, ⟨zone, what, bytes⟩⟩ (.slice a bytes.length c) w1 noM (H.out.mono (Keep.below HB.out)) HOK.out)
  unfold rv at hk
  simp only at hk
  go_simp
  ((with_reducible refine hk.out.mono ?_); rintro e w2 ⟨r2, rfl, ho, hBk⟩)
  have O2 := Lib.hid (ho.sl (M := noM) (fun _ _ h => h))
  replace HB := Lib.hid (HB.out.trans (hBk.mono HB.out.size))
  replace HG := Lib.hid (HG.out.below hBk)
  replace HT := Lib.hid (HT.out.below hBk)
  clear hBk hk hS ho
  refine hK _ _ ⟨fun _ _ => ⟨HG.out.cell, HT.out.cell⟩, ?_⟩; clear hK KK
  have hS := Lib.hid (And.intro HG.out.cell HT.out.cell)
  refine rp_only 8 (by kernel_rfl) rfl (fun KK hK => ?_)
  have hk := Lib.hid (rcellB_any A0 S r2 (recB ⟨kind, S, epoch, at_, of_, ⟨zone, what, bytes⟩⟩) w2 noM O2.out hA9 hS9 (by omega))
  go_simp
  ((with_reducible refine hk.out.mono ?_); rintro e w3 ⟨r3, rfl, ho, hBk⟩)
  have O3 := Lib.hid (ho.mono_base (base' := w.heap.size) HB.out.size)
  replace HB := Lib.hid (HB.out.trans (hBk.mono HB.out.size))
  replace HG := Lib.hid (HG.out.below hBk)
  replace HT := Lib.hid (HT.out.below hBk)
  clear hBk hk hS ho O2
  refine hK _ _ ⟨fun _ _ => ⟨HG.out.cell, HT.out.cell⟩, ?_⟩; clear hK KK
  have hS := Lib.hid (And.intro HG.out.cell HT.out.cell)
  apply rp_pure 9 rfl (by kernel_rfl) (fun _ _ _ h => h) rfl
  · (intro W'; go_simp; try rfl)
  · (go_simp; try rfl)
  refine rp_done (by kernel_rfl) ?_
  clear hS
  go_wp2
  go_ret
  rw [HE.out]
  exact ⟨_, rfl, O3.out, HB.out⟩
end Go.Proofs.YteecmgonbdbhdaaDoor
end

/-
Contracts that were walked in memory, in the abstract.
-/
section
namespace Go.Proofs.YteecmgonbdbhdaaDoor.A
open Go.RowKit

theorem rd1 {a : AV} {c : Ctx} {us : List Value} (h : RdL [a] c us) : ∃ u, us = [u] ∧ Rd a c u := by
  simp only [RdL] at h
  obtain ⟨u, r, rfl, h1, rfl⟩ := h
  exact ⟨u, rfl, h1⟩
theorem rd2 {a b : AV} {c : Ctx} {us : List Value} (h : RdL [a, b] c us) : ∃ u v, us = [u, v] ∧ Rd a c u ∧ Rd b c v := by
  simp only [RdL] at h
  obtain ⟨u, r, rfl, h1, v, q, rfl, h2, rfl⟩ := h
  exact ⟨u, v, rfl, h1, h2⟩
theorem rd4 {a b d e : AV} {c : Ctx} {us : List Value} (h : RdL [a, b, d, e] c us) : ∃ u v x y, us = [u, v, x, y] ∧ Rd a c u ∧ Rd b c v ∧ Rd d c x ∧ Rd e c y := by
  simp only [RdL] at h
  obtain ⟨u, r, rfl, h1, v, q, rfl, h2, x, q3, rfl, h3, y, q4, rfl, h4, rfl⟩ := h
  exact ⟨u, v, x, y, rfl, h1, h2, h3, h4⟩
theorem rd_geo {c : Ctx} {g : Geo} {u : Value} (h : Rd (.ag (geoC g)) c u) : u = gv g := by
  simp only [geoC, Rd, RdL] at h
  obtain ⟨xs, rfl, a, _, rfl, rfl, b, _, rfl, rfl, d, _, rfl, rfl, e, _, rfl, rfl, f, _, rfl, rfl, rfl⟩ := h
  rfl
theorem rd_img {c : Ctx} {x : Img} {u : Value} (h : Rd (.ag (imgC x)) c u) : ∃ v, u = .agg #[.int .i64 x.zone, .int .i64 x.what, v] ∧ Rd (bA x.bytes) c v := by
  simp only [imgC, Rd, RdL] at h
  obtain ⟨xs, rfl, a, _, rfl, rfl, b, _, rfl, rfl, d, _, rfl, h, rfl⟩ := h
  exact ⟨d, rfl, h⟩
theorem rd_rc {c : Ctx} {x : Rc} {u : Value} (h : Rd (.ag (rcC x)) c u) : ∃ v, u = rv x v ∧ Rd (bA x.img.bytes) c v := by
  simp only [rcC, Rd, RdL] at h
  obtain ⟨xs, rfl, a, _, rfl, rfl, b, _, rfl, rfl, d, _, rfl, rfl, e, _, rfl, rfl, f, _, rfl, rfl, g, _, rfl, rfl, i, _, rfl, rfl, v, _, rfl, h, rfl⟩ := h
  exact ⟨v, rfl, h⟩
theorem of_rc {c : Ctx} {x : Rc} {v : Value} (h : Rd (bA x.img.bytes) c v) : Rd (.ag (rcC x)) c (rv x v) := by
  simp only [rcC, Rd, RdL]
  exact ⟨_, rfl, _, _, rfl, rfl, _, _, rfl, rfl, _, _, rfl, rfl, _, _, rfl, rfl, _, _, rfl, rfl, _, _, rfl, rfl, _, _, rfl, rfl, _, _, rfl, h, rfl⟩
theorem of_tp2 {c : Ctx} {a b : AV} {u v : Value} (h : Rd a c u) (k : Rd b c v) : Rd (.tp [a, b]) c (.tuple #[u, v]) := by
  simp only [Rd, RdL]
  exact ⟨_, rfl, _, _, rfl, h, _, _, rfl, k, rfl⟩
theorem rd_v {c : Ctx} (v : Value) : Rd (.v v) c v := by simp [Rd]
theorem image_br (g : Geo) (x : Img) (hl : x.bytes.length ≤ 100000) : Fn Tryd.prog 109 [.ag (geoC g), .ag (imgC x)] fun r => r = .v (errV (imgOk g x)) := by
  refine ⟨⟨_, Tryd.func109, rfl, by decide⟩, fun c0 us hd hM _ hr => ?_⟩
  obtain ⟨u1, u2, rfl, h1, h2⟩ := rd2 hr
  obtain rfl := rd_geo h1
  obtain ⟨v, rfl, hv⟩ := rd_img h2
  refine (image_any g x v c0.w c0.M (toBytes hv) hl).mono ?_
  rintro e w' ⟨rfl, hB⟩
  exact ⟨_, _, rfl, rfl, hB, rd_v _⟩
theorem rbytes_br (g : Geo) (x : Rc) (hl : x.img.bytes.length ≤ 100000) : Fn Tryd.prog 72 [.ag (geoC g), .ag (rcC x)] fun r => r = .tp [bA (if okR g x then recB x else []), .v (errV (okR g x))] := by
  refine ⟨⟨_, Tryd.func72, rfl, by decide⟩, fun c0 us hd hM _ hr => ?_⟩
  obtain ⟨u1, u2, rfl, h1, h2⟩ := rd2 hr
  obtain rfl := rd_geo h1
  obtain ⟨v, rfl, hv⟩ := rd_rc h2
  refine (bytesU_any g x v c0.w c0.M (toBytes hv) hl).mono ?_
  rintro e w' ⟨q, rfl, ho, hB⟩
  exact ⟨_, _, rfl, rfl, hB, of_tp2 (ofOwn ho hM) (rd_v _)⟩
theorem rcell_br (g : Geo) (x : Rc) (copy slot : Int) (hl : x.img.bytes.length ≤ 100000) : Fn Tryd.prog 105 [.ag (geoC g), .ag (rcC x), .v (.int .i64 copy), .v (.int .i64 slot)] fun r => r = .tp [bA (if okR g x && okL g copy slot then cellB g x copy slot else []), .v (errV (okR g x && okL g copy slot))] := by
  refine ⟨⟨_, Tryd.func105, rfl, by decide⟩, fun c0 us hd hM _ hr => ?_⟩
  obtain ⟨u1, u2, u3, u4, rfl, h1, h2, h3, h4⟩ := rd4 hr
  obtain rfl := rd_geo h1
  obtain ⟨v, rfl, hv⟩ := rd_rc h2
  simp only [Rd] at h3 h4
  subst h3 h4
  refine (cellU_any g x copy slot v c0.w c0.M (toBytes hv) hl).mono ?_
  rintro e w' ⟨q, rfl, ho, hB⟩
  exact ⟨_, _, rfl, rfl, hB, of_tp2 (ofOwn ho hM) (rd_v _)⟩
theorem rread_br (g : Geo) (b : List UInt8) (hl : b.length ≤ 100000) : Fn Tryd.prog 43 [.ag (geoC g), bA b] fun r => r = .tp [.ag (rcC (if okG g then (readR g b).getD zeroC else zeroC)), .v (.int .i64 (readE g b))] := by
  refine ⟨⟨_, Tryd.func43, rfl, by decide⟩, fun c0 us hd hM _ hr => ?_⟩
  obtain ⟨u1, u2, rfl, h1, h2⟩ := rd2 hr
  obtain rfl := rd_geo h1
  refine (readU_any g u2 b c0.w c0.M (toBytes h2) hl).mono ?_
  rintro e w' ⟨q, r, rfl, hr', ho, hB⟩
  exact ⟨_, _, rfl, rfl, hB, of_tp2 (hr' ▸ of_rc (ofOwn ho hM)) (rd_v _)⟩
theorem readRec_br (g : Geo) (b : List UInt8) (hl : b.length ≤ 100000) (hg : okG g = true) : Fn Tryd.prog 50 [.ag (geoC g), bA b] fun r => r = .tp [.ag (rcC ((readR g b).getD zeroC)), .v (.bool (readR g b).isSome)] := by
  refine ⟨⟨_, Tryd.func50, rfl, by decide⟩, fun c0 us hd hM _ hr => ?_⟩
  obtain ⟨u1, u2, rfl, h1, h2⟩ := rd2 hr
  obtain rfl := rd_geo h1
  refine (readRecU_any g u2 b c0.w c0.M (toBytes h2) hl hg).mono ?_
  rintro e w' ⟨q, r, rfl, hr', ho, hB⟩
  exact ⟨_, _, rfl, rfl, hB, of_tp2 (hr' ▸ of_rc (ofOwn ho hM)) (rd_v _)⟩
theorem rimage_br (g : Geo) (x : Img) (hl : x.bytes.length ≤ 100000) (hg : okG g = true) : Fn Tryd.prog 25 [.ag (geoC g), .ag (imgC x)] fun r => r = .v (.bool (imgOk g x)) := by
  refine ⟨⟨_, Tryd.func25, rfl, by decide⟩, fun c0 us hd hM _ hr => ?_⟩
  obtain ⟨u1, u2, rfl, h1, h2⟩ := rd2 hr
  obtain rfl := rd_geo h1
  obtain ⟨v, rfl, hv⟩ := rd_img h2
  refine (rimage_any g x v c0.w c0.M (toBytes hv) hl hg).mono ?_
  rintro e w' ⟨rfl, hB⟩
  exact ⟨_, _, rfl, rfl, hB, rd_v _⟩
theorem rrec_br (g : Geo) (x : Rc) (hl : x.img.bytes.length ≤ 100000) (hg : okG g = true) : Fn Tryd.prog 82 [.ag (geoC g), .ag (rcC x)] fun r => r = .v (.bool (okR g x)) := by
  refine ⟨⟨_, Tryd.func82, rfl, by decide⟩, fun c0 us hd hM _ hr => ?_⟩
  obtain ⟨u1, u2, rfl, h1, h2⟩ := rd2 hr
  obtain rfl := rd_geo h1
  obtain ⟨v, rfl, hv⟩ := rd_rc h2
  refine (rrec_any g x v c0.w c0.M (toBytes hv) hl hg).mono ?_
  rintro e w' ⟨rfl, hB⟩
  exact ⟨_, _, rfl, rfl, hB, rd_v _⟩
theorem rgeom_br (g : Geo) : Fn Tryd.prog 18 [.ag (geoC g)] fun r => r = .v (.bool (okG g)) := by
  refine ⟨⟨_, Tryd.func18, rfl, by decide⟩, fun c0 us hd hM _ hr => ?_⟩
  obtain ⟨u1, rfl, h1⟩ := rd1 hr
  obtain rfl := rd_geo h1
  refine (rgeom_any g c0.w).mono ?_
  rintro e w' ⟨rfl, hB⟩
  exact ⟨_, _, rfl, rfl, hB, rd_v _⟩
theorem rrecB_br (g : Geo) (x : Rc) (hok : okR g x = true) : Fn Tryd.prog 86 [.ag (rcC x)] fun r => r = bA (recB x) := by
  refine ⟨⟨_, Tryd.func86, rfl, by decide⟩, fun c0 us hd hM _ hr => ?_⟩
  obtain ⟨u1, rfl, h1⟩ := rd1 hr
  obtain ⟨v, rfl, hv⟩ := rd_rc h1
  refine (rrecB_any g x v c0.w c0.M (toBytes hv) hok).mono ?_
  rintro e w' ⟨q, rfl, ho, hB⟩
  exact ⟨_, _, rfl, rfl, hB, ofOwn ho hM⟩
theorem rrecCell_br (g : Geo) (x : Rc) (copy slot : Int) (hok : okR g x = true) (hl : okL g copy slot = true) : Fn Tryd.prog 56 [.ag (geoC g), .ag (rcC x), .v (.int .i64 copy), .v (.int .i64 slot)] fun r => r = bA (cellB g x copy slot) := by
  refine ⟨⟨_, Tryd.func56, rfl, by decide⟩, fun c0 us hd hM _ hr => ?_⟩
  obtain ⟨u1, u2, u3, u4, rfl, h1, h2, h3, h4⟩ := rd4 hr
  obtain rfl := rd_geo h1
  obtain ⟨v, rfl, hv⟩ := rd_rc h2
  simp only [Rd] at h3 h4
  subst h3 h4
  refine (rrecCell_any g x v copy slot c0.w c0.M (toBytes hv) hok hl).mono ?_
  rintro e w' ⟨q, rfl, ho, hB⟩
  exact ⟨_, _, rfl, rfl, hB, ofOwn ho hM⟩
end Go.Proofs.YteecmgonbdbhdaaDoor.A
end

/-
seal.Open.
-/
section
namespace Go.Proofs.YteecmgonbdbhdaaDoor
open Go.RowKit
attribute [local go_sem ↓] Go.wp_at_zero Go.wp_at_succ

/-- How the reading of a sector ends. -/
def openE (b : List UInt8) : Int :=
  if b.length < 11 ∨ 107 < b.length then 4
  else if leN (b.drop (b.length - 4)) ≠ sumC (b.take (b.length - 4)) then 5
  else if partOk b = true ∧ partN b = b.length - 11 then 0 else 4
def secAddr (b : List UInt8) : Int := (leN ((b.drop (b.length - 10)).take 2) : Nat)
def secStamp (b : List UInt8) : Int := (leN ((b.drop (b.length - 8)).take 4) : Nat)
def secPay (b : List UInt8) : List UInt8 := (b.drop 1).take (b.length - 11)
def OpenP (w' : World) (base : Nat) (b : List UInt8) (e : Ending) : Prop :=
  (openE b ≠ 0 ∧ e = .returned (.tuple #[.agg #[.int .i64 0, .int .i64 0, .slice none 0 0], .int .i64 (openE b)])) ∨
  (openE b = 0 ∧ ∃ v, e = .returned (.tuple #[.agg #[.int .i64 (secAddr b), .int .i64 (secStamp b), v], .int .i64 0]) ∧ OwR w' noM base 5 v (secPay b))

set_option maxRecDepth 100000 in
set_option maxHeartbeats 16000000 in
theorem open_any (v : Value) (b : List UInt8) (w : World) (Mi : Ms) (h : SlR w Mi v b) (hl : b.length ≤ 100000) :
    Calls Tryd.prog 42 #[v] w fun e w' => OpenP w' w.heap.size b e ∧ Below w.heap.size w w' := by
  obtain ⟨a, c, rfl⟩ := h.form
  have hcap := h.cap
  have H := Lib.hid h.bare
  have HB := Lib.hid ((Below.refl w.heap.size w).alloc (Nat.le_refl _) (.cells #[.int .i64 0, .int .i64 0, .slice none 0 0] 95))
  have HR := Lib.hid (Blk.new w 95 #[.int .i64 0, .int .i64 0, .slice none 0 0])
  clear h
  by_cases hlen : b.length < 11 ∨ 107 < b.length
  · have hE := Lib.hid (show openE b = 4 by rw [openE, if_pos hlen])
    have hx := HR.out.cell
    by_cases h1 : b.length < 11
    · have h1' : (b.length : Int) < 11 := by omega
      have hlen := Lib.hid hlen
      go_enter Tryd.func42, Tryd.ntmps42
      go_wp2
      refine bodyPost_ret (v := .tuple #[.agg #[.int .i64 0, .int .i64 0, .slice none 0 0], .int .i64 4]) (by simp [results, Tryd.results42, go_sem, hx]) rfl ?_
      exact ⟨.inl ⟨by rw [hE.out]; decide, by rw [hE.out]⟩, HB.out⟩
    · have h1' : ¬ (b.length : Int) < 11 := by omega
      have h2' : (107 : Int) < b.length := by omega
      have hlen := Lib.hid hlen
      go_enter Tryd.func42, Tryd.ntmps42
      go_wp2
      refine bodyPost_ret (v := .tuple #[.agg #[.int .i64 0, .int .i64 0, .slice none 0 0], .int .i64 4]) (by simp [results, Tryd.results42, go_sem, hx]) rfl ?_
      exact ⟨.inl ⟨by rw [hE.out]; decide, by rw [hE.out]⟩, HB.out⟩
  · have h1 : 11 ≤ b.length := by omega
    have h2 : b.length ≤ 107 := by omega
    have h1' : ¬ (b.length : Int) < 11 := by omega
    have h2' : ¬ (107 : Int) < b.length := by omega
    have hE0 := Lib.hid (show openE b = if leN (b.drop (b.length - 4)) ≠ sumC (b.take (b.length - 4)) then 5 else if partOk b = true ∧ partN b = b.length - 11 then 0 else 4 by rw [openE, if_neg hlen])
    obtain ⟨-, hc1, hc2⟩ := hcap
    obtain ⟨bb, off, rfl, -, -⟩ := u8_at H.out (show 0 < b.length by omega)
    have hw4 : IntKind.i64.wrap ((b.length : Int) - 4) = ((b.length - 4 : Nat) : Int) := by rw [IntKind.wrap_i64]; omega
    have hw11 : IntKind.i64.wrap ((b.length : Int) - 11) = ((b.length - 11 : Nat) : Int) := by rw [IntKind.wrap_i64]; omega
    have hat0 : (0 : Int) ≤ ((b.length - 4 : Nat) : Int) := by omega
    have hat1 : ((b.length - 4 : Nat) : Int) ≤ b.length := by omega
    have hat2 : ((b.length - 4 : Nat) : Int) ≤ c := by omega
    have hat3 : (b.length : Int) ≤ c := by omega
    have hne : ¬ c = b.length - 4 := by omega
    have hsd := (H.out.mono (Keep.below HB.out)).dropU (i := b.length - 4) (by omega)
    rw [if_neg hne] at hsd
    have hdl : (b.drop (b.length - 4)).length = 4 := by rw [List.length_drop]; omega
    have hge := get_any _ (b.drop (b.length - 4)) 4 (w.alloc (.cells #[.int .i64 0, .int .i64 0, .slice none 0 0] 95)) noM noM hsd (.inr (.inr rfl)) (by rw [hdl]; decide) (by rw [hdl]; omega)
    rw [show (b.drop (b.length - 4)).take (Int.toNat 4) = b.drop (b.length - 4) from List.take_of_length_le (by rw [hdl]; decide)] at hge
    have hge := Lib.hid hge
    clear hlen hsd hdl
    go_enter Tryd.func42, Tryd.ntmps42
    go_wp2_with fail
    ((with_reducible refine hge.out.mono ?_); rintro e w1 ⟨r1, rfl, ho1, hB1⟩)
    have HB1 := Lib.hid (HB.out.trans (hB1.mono HB.out.size))
    have HR1 := Lib.hid (HR.out.below hB1)
    have hsm := Lib.hid (sumOf_any (.slice (some ⟨bb, off, none⟩) (b.length - 4) c) (b.take (b.length - 4)) w1 noM ((H.out.mono (Keep.below HB1.out)).take_ (by omega)))
    obtain ⟨T1, hT1⟩ : ∃ T1, T1 = leN (b.drop (b.length - 4)) := ⟨_, rfl⟩
    obtain ⟨T2, hT2⟩ : ∃ T2, T2 = sumC (b.take (b.length - 4)) := ⟨_, rfl⟩
    rw [← hT1, ← hT2] at hE0
    rw [← hT2] at hsm
    rw [← hT1]
    clear hB1 hge ho1 hT1 hT2 HB HR
    go_wp2_with fail
    ((with_reducible refine hsm.out.mono ?_); rintro e w2 ⟨rfl, rfl⟩)
    by_cases hsum : T1 = T2
    · have hs' : ((T1 : Int) != (T2 : Int)) = false := by simp [hsum]
      have hE1 := Lib.hid (show openE b = if partOk b = true ∧ partN b = b.length - 11 then 0 else 4 by rw [hE0.out, if_neg (by simpa using hsum)])
      have hup := Lib.hid (unpart_any (.slice (some ⟨bb, off, none⟩) b.length c) b w2 noM (H.out.mono (Keep.below HB1.out)) (by omega))
      clear hsum hE0 hsm
      go_wp2_with fail
      ((with_reducible refine hup.out.mono ?_); rintro e w3 ⟨hU, hB3⟩)
      have HB3 := Lib.hid (HB1.out.trans (hB3.mono HB1.out.size))
      have HR3 := Lib.hid (HR1.out.below hB3)
      have HW2 := Lib.hid (show w.heap.size < w2.heap.size from HR1.out.lt)
      clear hB3 hup HB1 HR1
      rcases hU with ⟨hpo, v1, v2, rfl, hv1, hv2⟩ | ⟨hpo, rfl⟩
      · obtain ⟨A1, C1, rfl⟩ := hv1.form
        obtain ⟨A2, C2, rfl⟩ := hv2.form
        have hpl : ((b.drop 1).take (partN b)).length = partN b := by
          simp only [partOk, decide_eq_true_eq] at hpo
          rw [List.length_take, List.length_drop]; omega
        rw [hpl] at hv1 ⊢
        by_cases hpn : partN b = b.length - 11
        · have hE2 := Lib.hid (show openE b = 0 by rw [hE1.out, if_pos ⟨hpo, hpn⟩])
          rw [hpn] at hv1 hv2 ⊢
          have hdr : b.drop (1 + (b.length - 11)) = b.drop (b.length - 10) := by congr 1; omega
          rw [hdr] at hv2 ⊢
          have hrl : (b.drop (b.length - 10)).length = 10 := by rw [List.length_drop]; omega
          have hbl := (Below.refl w3.heap.size w3).alloc (Nat.le_refl _) (.cells #[.int .i64 2, .int .i64 4] 3)
          have hun := unrow_any _ _ (b.drop (b.length - 10)) [2, 4] _ noM noM ((hv2.below hbl).sl (M := noM) (fun _ _ h => h)) ((OwR.litI w3 noM [2, 4] (by simp)).sl (fun _ _ h => h)) (by decide) (by rw [hrl]; omega) (by simp)
          rw [hrl] at hun ⊢
          simp only [List.map_cons, List.map_nil, List.length_cons, List.length_nil, Nat.reduceAdd] at hun
          have hun := Lib.hid hun
          have HV1 := Lib.hid hv1
          have HBL := Lib.hid hbl
          have hnum : nums [2, 4] (b.drop (b.length - 10)) = [secAddr b, secStamp b] := by
            simp only [nums, secAddr, secStamp]
            rw [List.drop_drop, show b.length - 10 + Int.toNat 2 = b.length - 8 by show _ + 2 = _; omega]
            rfl
          have HN := Lib.hid hnum
          have hpe : (((b.length - 11 : Nat) : Int) != ((b.length - 11 : Nat) : Int)) = false := by simp
          clear hpo hpl hpn hdr hv1 hv2 hbl hnum hE1
          go_wp2_with fail
          ((with_reducible refine hun.out.mono ?_); rintro e w4 ⟨hU, hB4⟩)
          have hb34 := HBL.out.trans (hB4.mono HBL.out.size)
          have HB4 := Lib.hid (HB3.out.trans (hb34.mono HB3.out.size))
          have HR4 := Lib.hid (HR3.out.below hb34)
          have HV4 := Lib.hid (HV1.out.below hb34)
          rcases hU with ⟨-, v5, v6, rfl, ho5, ho6⟩ | ⟨hfew, -⟩
          case inr => exact absurd hfew (by rw [hrl]; decide)
          rw [HN.out] at ho5
          obtain ⟨x, hx0⟩ : ∃ x, x = secAddr b := ⟨_, rfl⟩
          obtain ⟨y, hy0⟩ : ∃ y, y = secStamp b := ⟨_, rfl⟩
          rw [← hx0, ← hy0] at ho5
          have HXY := Lib.hid (And.intro hx0 hy0)
          obtain ⟨B, cB, rfl, hBB, hBlt, f1, y0, y1⟩ := ho5.int2
          have hS := Lib.hid (show w4.drew.cell? ⟨B, 0, none⟩ = some (.int .i64 x) ∧ w4.drew.cell? ⟨B, 1, none⟩ = some (.int .i64 y) from ⟨y0, y1⟩)
          clear hx0 hy0 ho5 ho6 hBB hBlt f1 y0 y1 hB4 hb34 hun
          go_wp2_with fail
          refine rp_enter [2, 5] (fun W => W.cell? ⟨B, 0, none⟩ = some (.int .i64 x) ∧ W.cell? ⟨B, 1, none⟩ = some (.int .i64 y)) (by kernel_rfl) ?_
          obtain ⟨r1, r2, r3⟩ := HR4.out.all
          apply rp_pure 0 rfl (by kernel_rfl) (fun _ _ _ h => h) rfl
          · (intro W; go_simp; try rfl)
          · (go_simp; try rfl)
          apply rp_pure 1 rfl (by kernel_rfl) (fun _ _ _ h => h) rfl
          · (intro W; go_simp; try rfl)
          · (go_simp; try rfl)
          apply rp_take 2 rfl (by kernel_rfl) (fun _ _ _ h => h) (hS.out) rfl
          · (rintro W ⟨s0, s1⟩; go_simp; try rfl)
          · (go_simp; try rfl)
          apply rp_pure 3 rfl (by kernel_rfl) (fun _ _ _ h => h) rfl
          · (intro W; go_simp; try rfl)
          · (go_simp; try rfl)
          apply rp_pure 4 rfl (by kernel_rfl) (fun _ _ _ h => h) rfl
          · (intro W; go_simp; try rfl)
          · (go_simp; try rfl)
          apply rp_take 5 rfl (by kernel_rfl) (fun _ _ _ h => h) (hS.out) rfl
          · (rintro W ⟨s0, s1⟩; go_simp; try rfl)
          · (go_simp; try rfl)
          apply rp_pure 6 rfl (by kernel_rfl) (fun _ _ _ h => h) rfl
          · (intro W; go_simp; try rfl)
          · (go_simp; try rfl)
          apply rp_pure 7 rfl (by kernel_rfl) (fun _ _ _ h => h) rfl
          · (intro W; go_simp; try rfl)
          · (go_simp; try rfl)
          refine rp_free 8 (by kernel_rfl) (by kernel_rfl) rfl (fun K hK => ?_)
          go_simp
          refine hK _ _ ?_; clear hK K
          apply rp_pure 9 rfl (by kernel_rfl) (fun _ _ _ h => h) rfl
          · (intro W; go_simp; try rfl)
          · (go_simp; try rfl)
          refine rp_done (by kernel_rfl) ?_
          clear r1 r2 r3 hS
          have hx := st3_cells HR4.out (.int .i64 x) (.int .i64 y) (.slice A1 (b.length - 11) C1)
          have HBf := Lib.hid ((((HB4.out.setCell (p := ⟨w.heap.size, 0, none⟩) (Nat.le_refl _) (.int .i64 x)).setCell (p := ⟨w.heap.size, 1, none⟩) (Nat.le_refl _) (.int .i64 y)).setCell (p := ⟨w.heap.size, 2, none⟩) (Nat.le_refl _) (.slice A1 (b.length - 11) C1)).drew)
          have hnv : (Value.slice A1 (b.length - 11) C1).ownBlock ≠ some w.heap.size := fun e => by have := HV4.out.own_ge e; have := HW2.out; omega
          have HVf := Lib.hid ((((HV4.out.setP plU (p := ⟨w.heap.size, 0, none⟩) hnv (.int .i64 x)).setP plU (p := ⟨w.heap.size, 1, none⟩) hnv (.int .i64 y)).setP plU (p := ⟨w.heap.size, 2, none⟩) hnv (.slice A1 (b.length - 11) C1)).drew)
          clear hnv
          go_wp2
          refine bodyPost_ret (v := .tuple #[.agg #[.int .i64 x, .int .i64 y, .slice A1 (b.length - 11) C1], .int .i64 0]) (by simp [results, Tryd.results42, go_sem, hx]) rfl ?_
          refine ⟨.inr ⟨hE2.out, _, ?_, HVf.out.mono_base (Nat.le_of_lt HW2.out)⟩, HBf.out⟩
          rw [HXY.out.1, HXY.out.2]
        · have hE2 := Lib.hid (show openE b = 4 by rw [hE1.out, if_neg (fun h => hpn h.2)])
          have hpe : (((partN b : Nat) : Int) != ((b.length - 11 : Nat) : Int)) = true := by simp only [bne_iff_ne, ne_eq]; omega
          obtain ⟨r1, r2, r3⟩ := HR3.out.all
          have hx := st3_cells HR3.out (.int .i64 0) (.int .i64 0) (.slice none 0 0)
          have HBf := Lib.hid (((HB3.out.setCell (p := ⟨w.heap.size, 0, none⟩) (Nat.le_refl _) (.int .i64 0)).setCell (p := ⟨w.heap.size, 1, none⟩) (Nat.le_refl _) (.int .i64 0)).setCell (p := ⟨w.heap.size, 2, none⟩) (Nat.le_refl _) (.slice none 0 0))
          clear hpo hpl hpn hv1 hv2 hE1
          go_wp2
          refine bodyPost_ret (v := .tuple #[.agg #[.int .i64 0, .int .i64 0, .slice none 0 0], .int .i64 4]) (by simp [results, Tryd.results42, go_sem, hx]) rfl ?_
          exact ⟨.inl ⟨by rw [hE2.out]; decide, by rw [hE2.out]⟩, HBf.out⟩
      · have hE2 := Lib.hid (show openE b = 4 by rw [hE1.out, if_neg (fun h => by rw [hpo] at h; cases h.1)])
        obtain ⟨r1, r2, r3⟩ := HR3.out.all
        have hx := st3_cells HR3.out (.int .i64 0) (.int .i64 0) (.slice none 0 0)
        have HBf := Lib.hid (((HB3.out.setCell (p := ⟨w.heap.size, 0, none⟩) (Nat.le_refl _) (.int .i64 0)).setCell (p := ⟨w.heap.size, 1, none⟩) (Nat.le_refl _) (.int .i64 0)).setCell (p := ⟨w.heap.size, 2, none⟩) (Nat.le_refl _) (.slice none 0 0))
        clear hpo hE1
        go_wp2
        refine bodyPost_ret (v := .tuple #[.agg #[.int .i64 0, .int .i64 0, .slice none 0 0], .int .i64 4]) (by simp [results, Tryd.results42, go_sem, hx]) rfl ?_
        exact ⟨.inl ⟨by rw [hE2.out]; decide, by rw [hE2.out]⟩, HBf.out⟩
    · have hs' : ((T1 : Int) != (T2 : Int)) = true := by simp only [bne_iff_ne, ne_eq]; omega
      have hE1 := Lib.hid (show openE b = 5 by rw [hE0.out, if_pos (by simpa using hsum)])
      obtain ⟨r1, r2, r3⟩ := HR1.out.all
      have hx := st3_cells HR1.out (.int .i64 0) (.int .i64 0) (.slice none 0 0)
      have HBf := Lib.hid (((HB1.out.setCell (p := ⟨w.heap.size, 0, none⟩) (Nat.le_refl _) (.int .i64 0)).setCell (p := ⟨w.heap.size, 1, none⟩) (Nat.le_refl _) (.int .i64 0)).setCell (p := ⟨w.heap.size, 2, none⟩) (Nat.le_refl _) (.slice none 0 0))
      clear hsum hE0 hsm
      go_wp2
      refine bodyPost_ret (v := .tuple #[.agg #[.int .i64 0, .int .i64 0, .slice none 0 0], .int .i64 5]) (by simp [results, Tryd.results42, go_sem, hx]) rfl ?_
      exact ⟨.inl ⟨by rw [hE1.out]; decide, by rw [hE1.out]⟩, HBf.out⟩
end Go.Proofs.YteecmgonbdbhdaaDoor
end

/-
Packages pair and casemateref15: which record is the one; what is heavy.
-/
section
namespace Go.Proofs.YteecmgonbdbhdaaDoor.A
open Go.RowKit

def isOne (r : Rc) (a : An) (seq at_ of_ left : Int) : Bool := decide (r.kind ≠ 0 ∧ r.seq = seq ∧ r.at_ = at_ ∧ (of_ = 0 → r.of_ ≤ left) ∧ (of_ ≠ 0 → r.of_ = of_) ∧ (r.epoch = a.epoch ∨ seq ≤ a.last ∧ r.epoch ≤ a.epoch))
theorem is_fn (r : Rc) (a : An) (seq at_ of_ left : Int) : Fn Tryd.prog 16 [.ag (rcC r), .ag (anC a), .v (.int .i64 seq), .v (.int .i64 at_), .v (.int .i64 of_), .v (.int .i64 left)] fun x => x = .v (.bool (isOne r a seq at_ of_ left)) := by
  by_cases h1 : (r.kind ≠ 0 ∧ r.seq = seq ∧ r.at_ = at_ ∧ (of_ = 0 → r.of_ ≤ left) ∧ (of_ ≠ 0 → r.of_ = of_) ∧ (r.epoch = a.epoch ∨ seq ≤ a.last ∧ r.epoch ≤ a.epoch))
  · have e : isOne r a seq at_ of_ left = true := decide_eq_true h1
    rw [e]
    refine Fn.of tys_ok Tryd.func16 rfl rfl (Nat.le_of_ble_eq_true rfl) ?_
    conv => whnf
    repeat' (refine boolK_intro (fun h => ?_) (fun h => ?_) <;> simp at h <;> conv => whnf)
    all_goals first | (exfalso; omega) | exact ⟨_, fun _ _ h => h, rfl⟩ | exact ⟨_, fun _ _ h => h, by simp; omega⟩
  · have e : isOne r a seq at_ of_ left = false := decide_eq_false h1
    rw [e]
    refine Fn.of tys_ok Tryd.func16 rfl rfl (Nat.le_of_ble_eq_true rfl) ?_
    conv => whnf
    repeat' (refine boolK_intro (fun h => ?_) (fun h => ?_) <;> simp at h <;> conv => whnf)
    all_goals first | (exfalso; omega) | exact ⟨_, fun _ _ h => h, rfl⟩ | exact ⟨_, fun _ _ h => h, by simp; omega⟩
theorem rone_fn (r : Rc) (a : An) (seq at_ of_ left : Int) : Fn Tryd.prog 17 [.ag (rcC r), .ag (anC a), .v (.int .i64 seq), .v (.int .i64 at_), .v (.int .i64 of_), .v (.int .i64 left)] fun x => x = .v (.bool (isOne r a seq at_ of_ left)) := by
  by_cases h1 : (r.kind ≠ 0 ∧ r.seq = seq ∧ r.at_ = at_ ∧ (of_ = 0 → r.of_ ≤ left) ∧ (of_ ≠ 0 → r.of_ = of_) ∧ (r.epoch = a.epoch ∨ seq ≤ a.last ∧ r.epoch ≤ a.epoch))
  · have e : isOne r a seq at_ of_ left = true := decide_eq_true h1
    rw [e]
    refine Fn.of tys_ok Tryd.func17 rfl rfl (Nat.le_of_ble_eq_true rfl) ?_
    conv => whnf
    repeat' (refine boolK_intro (fun h => ?_) (fun h => ?_) <;> simp at h <;> conv => whnf)
    all_goals first | (exfalso; omega) | exact ⟨_, fun _ _ h => h, rfl⟩ | exact ⟨_, fun _ _ h => h, by simp; omega⟩
  · have e : isOne r a seq at_ of_ left = false := decide_eq_false h1
    rw [e]
    refine Fn.of tys_ok Tryd.func17 rfl rfl (Nat.le_of_ble_eq_true rfl) ?_
    conv => whnf
    repeat' (refine boolK_intro (fun h => ?_) (fun h => ?_) <;> simp at h <;> conv => whnf)
    all_goals first | (exfalso; omega) | exact ⟨_, fun _ _ h => h, rfl⟩ | exact ⟨_, fun _ _ h => h, by simp; omega⟩
theorem open_br (b : List UInt8) (hl : b.length ≤ 100000) : Fn Tryd.prog 42 [bA b] fun r => r = .tp [.ag (if openE b = 0 then secC ⟨secAddr b, secStamp b, secPay b⟩ else secC ⟨0, 0, []⟩), .v (.int .i64 (openE b))] := by
  refine ⟨⟨_, Tryd.func42, rfl, by decide⟩, fun c0 us hd hM _ hr => ?_⟩
  obtain ⟨u1, rfl, h1⟩ := rd1 hr
  refine (open_any u1 b c0.w c0.M (toBytes h1) hl).mono ?_
  rintro e w' ⟨⟨hne, rfl⟩ | ⟨h0, v, rfl, ho⟩, hB⟩
  · refine ⟨_, _, rfl, rfl, hB, of_tp2 ?_ (rd_v _)⟩
    rw [if_neg hne]
    simp only [secC, Rd, RdL]
    exact ⟨_, rfl, _, _, rfl, rfl, _, _, rfl, rfl, _, _, rfl, nil_sl _ _ _ _ (by simp [Rd]), rfl⟩
  · refine ⟨_, _, rfl, rfl, hB, of_tp2 ?_ (by rw [h0]; exact rd_v _)⟩
    rw [if_pos h0]
    simp only [secC, Rd, RdL]
    exact ⟨_, rfl, _, _, rfl, rfl, _, _, rfl, rfl, _, _, rfl, ofOwn ho hM, rfl⟩
end Go.Proofs.YteecmgonbdbhdaaDoor.A
end

/-
Package geom: where a slot of the log stands.
-/
section
namespace Go.Proofs.YteecmgonbdbhdaaDoor.A
open Go.RowKit

theorem gin_fn (n lo hi : Int) : Fn Tryd.prog 64 [.v (.int .i64 n), .v (.int .i64 lo), .v (.int .i64 hi)] fun r => r = .v (.bool (inB n lo hi)) := by
  refine Fn.of tys_ok Tryd.func64 rfl rfl (Nat.le_of_ble_eq_true rfl) ?_
  conv => whnf
  repeat' (first | (refine boolK_intro (fun h => ?_) (fun h => ?_) <;> (try simp at h) <;> conv => whnf) | (refine aDraw.seq tys_ok mixed (by kernel_rfl) ?_; conv => whnf) | (refine aSeq.go ?_; conv => whnf) | (refine And.intro (by omega) ?_; conv => whnf))
  all_goals exact ⟨_, fun _ _ h => h, by simp [inB, *] <;> omega⟩
theorem told_fn (g : Geo) (n : Int) (b : Bool) : Fn Tryd.prog 63 [.ag (geoC g), .v (.int .i64 n), .v (.bool b)] fun r => r = .tp [.v (.int .i64 (if okG g && b then n else 0)), .v (.int .i64 (if okG g && b then 0 else 1))] := by
  have s1 : Fn Tryd.prog 69 [.ag (geoC g)] fun r => r = .v (errV (okG g)) := gcheck_fn g.z g.d g.sp g.sl g.an
  cases hg : okG g <;> cases b
  all_goals
    rw [hg] at s1
    refine Fn.of tys_ok Tryd.func63 rfl rfl (Nat.le_of_ble_eq_true rfl) ?_
    conv => whnf
    refine Fn.closed (s1) rfl ?_
    rintro _ rfl
    conv => whnf
    exact ⟨_, fun _ _ h => h, rfl⟩
theorem log_fn (g : Geo) (copy slot : Int) : Fn Tryd.prog 41 [.ag (geoC g), .v (.int .i64 copy), .v (.int .i64 slot)] fun r => r = .tp [.v (.int .i64 (if okG g && okL g copy slot then logAt g copy slot else 0)), .v (.int .i64 (if okG g && okL g copy slot then 0 else 1))] := by
  refine Fn.of tys_ok Tryd.func41 rfl rfl (Nat.le_of_ble_eq_true rfl) ?_
  conv => whnf
  refine aDraw.of tys_ok mixed [0, 1, 2, 3, 4, 5, 6, 7, 8, 9, 10, 11, 12, 13, 14, 15, 16, 17, 18, 19, 20, 21, 22, 23] (by kernel_rfl) ?_
  conv => whnf
  refine Fn.closed (gin_fn _ _ _) rfl ?_
  rintro _ rfl
  conv => whnf
  refine boolK_intro (fun t1 => ?_) (fun t1 => ?_) <;> conv => whnf
  · refine Fn.closed (gin_fn _ _ _) rfl ?_
    rintro _ rfl
    conv => whnf
    refine Fn.closed (told_fn g _ _) rfl ?_
    rintro _ rfl
    conv => whnf
    refine ⟨_, fun _ _ h => h, ?_⟩
    cases hg : okG g with
    | false => rfl
    | true =>
      obtain ⟨h1, h2, h3, h4, h5⟩ := okG_iff.1 hg
      rw [wi (n := g.sl - 1) (by omega)]
      have e : okL g copy slot = inB slot 0 (g.sl - 1) := by rw [okL, t1]; rfl
      rw [e]
      cases hb : inB slot 0 (g.sl - 1) with
      | false => rfl
      | true =>
        obtain ⟨c1, c2⟩ := inB_iff.1 t1
        obtain ⟨b1, b2⟩ := inB_iff.1 hb
        have hm : 0 ≤ copy * g.sl ∧ copy * g.sl ≤ 30 := by
          rcases (show copy = 0 ∨ copy = 1 by omega) with rfl | rfl
          · omega
          · omega
        rw [wi (n := copy * g.sl) (by omega), wi (n := g.an + copy * g.sl) (by omega), wi (n := g.an + copy * g.sl + slot) (by omega)]
        rfl
  · refine Fn.closed (told_fn g _ _) rfl ?_
    rintro _ rfl
    conv => whnf
    refine ⟨_, fun _ _ h => h, ?_⟩
    have e : okL g copy slot = false := by rw [okL, t1]; rfl
    rw [e]
    cases okG g <;> rfl
def saysR (g : Geo) (x : Gt) (copy slot : Int) : Option Rc :=
  if okG g && okL g copy slot && decide (x.err = 0) && decide (openE x.bytes = 0) && decide (secAddr x.bytes = logAt g copy slot) then
    match readR g (secPay x.bytes) with
    | some r => if r.seq = secStamp x.bytes then some r else none
    | none => none
  else none
theorem tp_sub {l m : List AV} (h : SubL l m) (c : Ctx) (u : Value) (hr : Rd (.tp l) c u) : Rd (.tp m) c u := by
  simp only [Rd] at hr ⊢
  obtain ⟨xs, rfl, h1⟩ := hr
  exact ⟨xs, rfl, h.rdl h1⟩
theorem zrec_sub (c : Ctx) (u : Value) (b : Bool) (h : Rd (.tp [.ag [.v (.int .i64 0), .v (.int .i64 0), .v (.int .i64 0), .v (.int .i64 0), .v (.int .i64 0), .v (.int .i64 0), .v (.int .i64 0), .v (.slice none 0 0)], .v (.bool b)]) c u) : Rd (.tp [.ag (rcC zeroC), .v (.bool b)]) c u := by
  refine tp_sub ?_ c u h
  exact ⟨ag_sub ⟨fun _ _ h => h, fun _ _ h => h, fun _ _ h => h, fun _ _ h => h, fun _ _ h => h, fun _ _ h => h, fun _ _ h => h, nil_sl _ _, trivial⟩, fun _ _ h => h, trivial⟩
theorem says_fn (g : Geo) (x : Gt) (copy slot : Int) (hl : x.bytes.length ≤ 100000) : Fn Tryd.prog 14 [.ag (geoC g), .ag (gotC x), .v (.int .i64 copy), .v (.int .i64 slot)] fun r => r = .tp [.ag (rcC ((saysR g x copy slot).getD zeroC)), .v (.bool (saysR g x copy slot).isSome)] := by
  have s1 := log_fn g copy slot
  have s2 := open_br x.bytes hl
  cases hQ : okG g && okL g copy slot with
  | false =>
    have e : saysR g x copy slot = none := by rw [saysR, hQ]; rfl
    rw [hQ] at s1
    rw [e]
    refine Fn.of tys_ok Tryd.func14 rfl rfl (Nat.le_of_ble_eq_true rfl) ?_
    conv => whnf
    refine Fn.closed (s1) rfl ?_
    rintro _ rfl
    conv => whnf
    exact ⟨_, fun c v h => zrec_sub c v false h, rfl⟩
  | true =>
    rw [hQ] at s1
    have hg : okG g = true := by simp at hQ; exact hQ.1
    by_cases hO : openE x.bytes = 0
    · rw [if_pos hO, hO] at s2
      have s3 := rread_br g (secPay x.bytes) (by simp [secPay]; omega)
      rw [hg, if_pos rfl] at s3
      refine Fn.of tys_ok Tryd.func14 rfl rfl (Nat.le_of_ble_eq_true rfl) ?_
      conv => whnf
      refine Fn.closed (s1) rfl ?_
      rintro _ rfl
      conv => whnf
      refine boolK_intro (fun t1 => ?_) (fun t1 => ?_) <;> simp only [bne_iff_ne, ne_eq, bne_eq_false_iff_eq] at t1 <;> conv => whnf
      · have e : saysR g x copy slot = none := by rw [saysR, decide_eq_false t1]; simp
        exact ⟨_, fun c v h => zrec_sub c v false h, by rw [e]; rfl⟩
      refine Fn.closed (s2) rfl ?_
      rintro _ rfl
      conv => whnf
      refine boolK_intro (fun t2 => ?_) (fun t2 => ?_) <;> simp only [bne_iff_ne, ne_eq, bne_eq_false_iff_eq, if_true] at t2 <;> conv => whnf
      · have e : saysR g x copy slot = none := by rw [saysR, decide_eq_false (p := secAddr x.bytes = logAt g copy slot) t2]; simp
        exact ⟨_, fun c v h => zrec_sub c v false h, by rw [e]; rfl⟩
      have es : saysR g x copy slot = match readR g (secPay x.bytes) with | some r => if r.seq = secStamp x.bytes then some r else none | none => none := by
        rw [saysR, hQ, decide_eq_true t1, decide_eq_true hO, decide_eq_true (p := secAddr x.bytes = logAt g copy slot) t2]; rfl
      cases hR : readR g (secPay x.bytes) with
      | none =>
        rw [hR] at s3 es
        have e4 : readE g (secPay x.bytes) = 4 := by simp [readE, hg, hR]
        rw [e4] at s3
        refine Fn.closed (s3) rfl ?_
        rintro _ rfl
        conv => whnf
        exact ⟨_, fun c v h => zrec_sub c v false h, by rw [es]; rfl⟩
      | some r =>
        rw [hR] at s3 es
        have e4 : readE g (secPay x.bytes) = 0 := by simp [readE, hg, hR]
        rw [e4] at s3
        refine Fn.closed (s3) rfl ?_
        rintro _ rfl
        conv => whnf
        refine boolK_intro (fun t3 => ?_) (fun t3 => ?_) <;> simp only [bne_iff_ne, ne_eq, bne_eq_false_iff_eq, Option.getD_some] at t3 <;> conv => whnf
        · exact ⟨_, fun c v h => zrec_sub c v false h, by rw [es]; simp only [if_neg t3]; rfl⟩
        · exact ⟨_, fun _ _ h => h, by rw [es]; simp only [if_pos t3]; rfl⟩
    · have e : saysR g x copy slot = none := by rw [saysR, decide_eq_false hO]; simp
      rw [if_neg hO] at s2
      rw [e]
      refine Fn.of tys_ok Tryd.func14 rfl rfl (Nat.le_of_ble_eq_true rfl) ?_
      conv => whnf
      refine Fn.closed (s1) rfl ?_
      rintro _ rfl
      conv => whnf
      refine boolK_intro (fun t1 => ?_) (fun t1 => ?_) <;> conv => whnf
      · exact ⟨_, fun c v h => zrec_sub c v false h, rfl⟩
      refine Fn.closed (s2) rfl ?_
      rintro _ rfl
      conv => whnf
      refine boolK_intro (fun t2 => ?_) (fun t2 => ?_) <;> simp only [bne_iff_ne, ne_eq, bne_eq_false_iff_eq] at t2 <;> conv => whnf
      · exact ⟨_, fun c v h => zrec_sub c v false h, rfl⟩
      · exact absurd t2 hO
end Go.Proofs.YteecmgonbdbhdaaDoor.A
end

/-
Package casematelaw08: which anchors are too heavy to be played.
-/
section
namespace Go.Proofs.YteecmgonbdbhdaaDoor.A
open Go.RowKit

def heavyA (a : An) : Bool := decide (10 < a.homes.length) || (decide (200 < a.label.size) || a.homes.any fun h => decide (20 < h.places.length))
theorem heavyA_fn (a : An) : Fn Tryd.prog 12 [.ag (anC a)] fun r => r = .v (.bool (heavyA a)) := by
  refine Fn.of tys_ok Tryd.func12 rfl rfl (Nat.le_of_ble_eq_true rfl) ?_
  conv => whnf
  refine boolK_intro (fun h1 => ?_) (fun h1 => ?_) <;> simp at h1 <;> conv => whnf
  · exact ⟨_, fun _ _ h => h, by simp [heavyA, show 10 < a.homes.length by omega]⟩
  refine boolK_intro (fun h2 => ?_) (fun h2 => ?_) <;> simp at h2 <;> conv => whnf
  · exact ⟨_, fun _ _ h => h, by simp [heavyA, show 200 < a.label.size by omega]⟩
  refine aLoop.rule Nat (fun k => ([(1, .bp 0 0), (3, .v (.int .i64 k))], [.box 26 (anC a)])) (fun k => k ≤ a.homes.length ∧ (a.homes.take k).any (fun h => decide (20 < h.places.length)) = false) (fun k => a.homes.length - k) 0 ⟨Nat.zero_le _, by simp⟩ ⟨[], trivial, ⟨rfl, rfl, trivial⟩, ⟨rfl, trivial⟩, rfl, rfl, rfl⟩ ?_
  rintro k ⟨hk, hI⟩
  conv => whnf
  refine boolK_intro (fun h3 => ?_) (fun h3 => ?_) <;> simp at h3 <;> conv => whnf
  · refine ⟨by omega, ?_⟩
    conv => whnf
    have ek : ((k : Nat) : Int).toNat = k := Int.toNat_natCast k
    refine boolK_intro (fun h4 => ?_) (fun h4 => ?_) <;> simp only [ek, decide_eq_true_eq, decide_eq_false_iff_not, gt_iff_lt] at h4 <;> conv => whnf
    · have e : (a.homes.any fun h => decide (20 < h.places.length)) = true := List.any_eq_true.2 ⟨_, getD_mem h3, decide_eq_true (show 20 < (a.homes.getD k ⟨[], 0, 0⟩).places.length by omega)⟩
      exact ⟨_, fun _ _ h => h, by rw [heavyA, e]; simp⟩
    · refine ⟨k + 1, ⟨by omega, ?_⟩, by omega, [], trivial, ⟨rfl, wsucc (by omega), trivial⟩, ⟨rfl, trivial⟩, rfl, rfl, rfl⟩
      rw [List.take_succ_eq_append_getElem h3, List.any_append, hI]
      rw [List.getD_eq_getElem?_getD, List.getElem?_eq_getElem h3] at h4
      simp at h4 ⊢
      omega
  · have e : k = a.homes.length := by omega
    rw [e, List.take_length] at hI
    exact ⟨_, fun _ _ h => h, by simp [heavyA, hI]; omega⟩
end Go.Proofs.YteecmgonbdbhdaaDoor.A
end

/-
Package casemateref01: numbers, sums, sectors.
-/
section
namespace Go.Proofs.YteecmgonbdbhdaaDoor.A
open Go.RowKit

theorem rsum_br (b : List UInt8) : Fn Tryd.prog 102 [bA b] fun r => r = .v (.int .i64 (sumC b : Nat)) := by
  refine ⟨⟨_, Tryd.func102, rfl, by decide⟩, fun c0 us hd hM _ hr => ?_⟩
  obtain ⟨u1, rfl, h1⟩ := rd1 hr
  refine (rsum_any u1 b c0.w c0.M (toBytes h1)).mono ?_
  rintro e w' ⟨rfl, rfl⟩
  exact ⟨_, _, rfl, rfl, Below.refl _ _, rd_v _⟩
theorem rget_br (b : List UInt8) (m : Nat) (hm : m ≤ b.length) (hm4 : m ≤ 4) : Fn Tryd.prog 81 [bA b, .v (.int .i64 m)] fun r => r = .v (.int .i64 (leN (b.take m) : Nat)) := by
  refine ⟨⟨_, Tryd.func81, rfl, by decide⟩, fun c0 us hd hM _ hr => ?_⟩
  obtain ⟨u1, u2, rfl, h1, h2⟩ := rd2 hr
  simp only [Rd] at h2
  subst h2
  refine (rget_any u1 b m c0.w c0.M (toBytes h1) hm hm4).mono ?_
  rintro e w' ⟨rfl, rfl⟩
  exact ⟨_, _, rfl, rfl, Below.refl _ _, rd_v _⟩
end Go.Proofs.YteecmgonbdbhdaaDoor.A
end

/-
Package casemateref01: a sector opened.
-/
section
namespace Go.Proofs.YteecmgonbdbhdaaDoor.A
open Go.RowKit

theorem sl_drop {b : List UInt8} {l n : Nat} (hn : l + n = b.length) (c : Ctx) (u : Value) (h : Rd (.sl 1 n fun i => [.v (.int .u8 (b.getD (i + l) 0).toNat)]) c u) : Rd (bA (b.drop l)) c u :=
  Rd.congr (by rw [List.length_drop]; omega) (fun i hi => by simp [List.getD_eq_getElem?_getD, Nat.add_comm]) h
theorem zsec_sub (c : Ctx) (u : Value) (e : Int) (h : Rd (.tp [.ag [.v (.int .i64 0), .v (.int .i64 0), .v (.slice none 0 0)], .v (.int .i64 e)]) c u) : Rd (.tp [.ag (secC ⟨0, 0, []⟩), .v (.int .i64 e)]) c u := by
  refine tp_sub ?_ c u h
  exact ⟨ag_sub ⟨fun _ _ h => h, fun _ _ h => h, nil_sl _ _, trivial⟩, fun _ _ h => h, trivial⟩
theorem ropen_fn (b : List UInt8) (hl : b.length ≤ 100000) : Fn Tryd.prog 80 [bA b] fun r => r = .tp [.ag (if openE b = 0 then secC ⟨secAddr b, secStamp b, secPay b⟩ else secC ⟨0, 0, []⟩), .v (.int .i64 (openE b))] := by
  refine Fn.of tys_ok Tryd.func80 rfl rfl (Nat.le_of_ble_eq_true rfl) ?_
  conv => whnf
  refine boolI (fun t1 => ?_) (fun t1 => ?_) <;> (repeat rw [Int.toNat_natCast] at t1) <;> conv => whnf
  · have e : openE b = 4 := by rw [openE, if_pos (by omega)]
    exact ⟨_, fun c u h => zsec_sub c u 4 h, by rw [e]; rfl⟩
  refine boolI (fun t2 => ?_) (fun t2 => ?_) <;> (repeat rw [Int.toNat_natCast] at t2) <;> conv => whnf
  · have e : openE b = 4 := by rw [openE, if_pos (by omega)]
    exact ⟨_, fun c u h => zsec_sub c u 4 h, by rw [e]; rfl⟩
  have w4 : IntKind.i64.wrap ((b.length : Int) - 4) = b.length - 4 := wi (by omega)
  refine aDraw.of tys_ok mixed [0, 1, 2, 3, 5, 6, 7, 8, 4, 9, 10] (by kernel_rfl) ?_
  conv => whnf
  rw [w4]
  refine ⟨⟨by omega, by omega, by omega, by omega⟩, ?_⟩
  conv => whnf
  trace_state
  sorry
end Go.Proofs.YteecmgonbdbhdaaDoor.A
end

/-
Packages casemateref01, casemateref08, casemateref15: what a reading of a copy says; package pair: what both copies come to.
-/
section
namespace Go.Proofs.YteecmgonbdbhdaaDoor.A
open Go.RowKit

theorem rlogAt_fn (g : Geo) (copy slot : Int) (hg : okG g = true) (hl : okL g copy slot = true) : Fn Tryd.prog 33 [.ag (geoC g), .v (.int .i64 copy), .v (.int .i64 slot)] fun r => r = .v (.int .i64 (logAt g copy slot)) := by
  obtain ⟨h1, h2, h3, h4, h5⟩ := okG_iff.1 hg
  simp only [okL, Bool.and_eq_true, inB_iff] at hl
  refine Fn.of tys_ok Tryd.func33 rfl rfl (Nat.le_of_ble_eq_true rfl) ?_
  conv => whnf
  refine ⟨_, fun _ _ h => h, ?_⟩
  have hm : 0 ≤ copy * g.sl ∧ copy * g.sl ≤ 30 := by
    rcases (show copy = 0 ∨ copy = 1 by omega) with rfl | rfl <;> omega
  rw [wi (n := copy * g.sl) (by omega), wi (n := g.an + copy * g.sl) (by omega), wi (n := g.an + copy * g.sl + slot) (by omega)]
  rfl
def sectorO (x : Gt) (addr : Int) : Option Sec := if x.err = 0 ∧ openE x.bytes = 0 ∧ secAddr x.bytes = addr then some ⟨secAddr x.bytes, secStamp x.bytes, secPay x.bytes⟩ else none
def zeroS : Sec := ⟨0, 0, []⟩
theorem zsec_subB (c : Ctx) (u : Value) (b : Bool) (h : Rd (.tp [.ag [.v (.int .i64 0), .v (.int .i64 0), .v (.slice none 0 0)], .v (.bool b)]) c u) : Rd (.tp [.ag (secC zeroS), .v (.bool b)]) c u := by
  refine tp_sub ?_ c u h
  exact ⟨ag_sub ⟨fun _ _ h => h, fun _ _ h => h, nil_sl _ _, trivial⟩, fun _ _ h => h, trivial⟩
theorem sector_fn (x : Gt) (addr : Int) (hl : x.bytes.length ≤ 100000) : Fn Tryd.prog 49 [.ag (gotC x), .v (.int .i64 addr)] fun r => r = .tp [.ag (secC ((sectorO x addr).getD zeroS)), .v (.bool (sectorO x addr).isSome)] := by
  have s1 := ropen_fn x.bytes hl
  refine Fn.of tys_ok Tryd.func49 rfl rfl (Nat.le_of_ble_eq_true rfl) ?_
  conv => whnf
  refine boolI (fun t1 => ?_) (fun t1 => ?_) <;> (repeat rw [Int.toNat_natCast] at t1) <;> conv => whnf
  · have e : sectorO x addr = none := by rw [sectorO, if_neg (fun h => t1 h.1)]
    rw [e]
    exact ⟨_, fun c v h => zsec_subB c v false h, rfl⟩
  by_cases hO : openE x.bytes = 0
  · rw [if_pos hO, hO] at s1
    refine Fn.closed (s1) rfl ?_
    rintro _ rfl
    conv => whnf
    refine boolI (fun t2 => ?_) (fun t2 => ?_) <;> (repeat rw [Int.toNat_natCast] at t2) <;> conv => whnf
    · have e : sectorO x addr = none := by rw [sectorO, if_neg (fun h => t2 h.2.2)]
      rw [e]
      exact ⟨_, fun c v h => zsec_subB c v false h, rfl⟩
    · have e : sectorO x addr = some ⟨secAddr x.bytes, secStamp x.bytes, secPay x.bytes⟩ := by rw [sectorO, if_pos ⟨t1, hO, t2⟩]
      rw [e]
      exact ⟨_, fun _ _ h => h, rfl⟩
  · rw [if_neg hO] at s1
    refine Fn.closed (s1) rfl ?_
    rintro _ rfl
    conv => whnf
    have e : sectorO x addr = none := by rw [sectorO, if_neg (fun h => hO h.2.1)]
    rw [e]
    refine boolI (fun t2 => ?_) (fun t2 => ?_) <;> (repeat rw [Int.toNat_natCast] at t2) <;> conv => whnf
    · exact ⟨_, fun c v h => zsec_subB c v false h, rfl⟩
    · exact absurd t2 hO
theorem saysR_of (g : Geo) (x : Gt) (copy slot : Int) (hg : okG g = true) (hL : okL g copy slot = true) : saysR g x copy slot = match sectorO x (logAt g copy slot) with | none => none | some s => match readR g s.pay with | some r => if r.seq = s.stamp then some r else none | none => none := by
  unfold saysR sectorO
  rw [hg, hL]
  by_cases h1 : x.err = 0 <;> by_cases h2 : openE x.bytes = 0 <;> by_cases h3 : secAddr x.bytes = logAt g copy slot <;> simp [h1, h2, h3] <;> rfl
theorem sectorO_len {x : Gt} {a : Int} {s : Sec} (h : sectorO x a = some s) : s.pay.length ≤ x.bytes.length := by
  unfold sectorO at h
  split at h
  · cases h; simp [secPay]; omega
  · cases h
theorem recSays_fn (g : Geo) (x : Gt) (copy slot : Int) (hl : x.bytes.length ≤ 100000) (hg : okG g = true) (hL : okL g copy slot = true) : Fn Tryd.prog 21 [.ag (geoC g), .ag (gotC x), .v (.int .i64 copy), .v (.int .i64 slot)] fun r => r = .tp [.ag (rcC ((saysR g x copy slot).getD zeroC)), .v (.bool (saysR g x copy slot).isSome)] := by
  have s1 := sector_fn x (logAt g copy slot) hl
  rw [saysR_of g x copy slot hg hL]
  cases hS : sectorO x (logAt g copy slot) with
  | none =>
    rw [hS] at s1
    refine Fn.of tys_ok Tryd.func21 rfl rfl (Nat.le_of_ble_eq_true rfl) ?_
    conv => whnf
    apply aDraw.tree tys_ok mixed (.one 0 (.one 1 (.one 2 (.one 3 (.two 4 (.two 5 (.one 6 (.one 7 (.one 8 (.one 9 (.one 10 (.one 11 .fin)))))) 9 (.one 5 (.one 6 (.one 7 (.one 8 (.one 10 (.one 11 .fin))))))) 9 (.one 4 (.one 5 (.one 6 (.one 7 (.one 8 (.one 10 (.one 11 .fin)))))))))))) [10, 11, 13, 14, 15, 16, 17, 18, 19, 20, 21] (by kernel_rfl)
    · conv => whnf
      refine And.intro ?_ ?_
      · conv => whnf
        refine Fn.closed (rlogAt_fn g copy slot hg hL) rfl ?_
        rintro _ rfl
        conv => whnf
        refine And.intro ?_ ?_
        · conv => whnf
          refine Fn.closed (s1) rfl ?_
          rintro _ rfl
          conv => whnf
          exact ⟨rfl, rfl⟩
        · conv => whnf
          refine Fn.closed (s1) rfl ?_
          rintro _ rfl
          conv => whnf
          exact ⟨rfl, rfl⟩
      · conv => whnf
        refine Fn.closed (rlogAt_fn g copy slot hg hL) rfl ?_
        rintro _ rfl
        conv => whnf
        refine Fn.closed (s1) rfl ?_
        rintro _ rfl
        conv => whnf
        exact ⟨rfl, rfl⟩
    conv => whnf
    exact ⟨_, fun c v h => zrec_sub c v false h, rfl⟩
  | some s =>
    rw [hS] at s1
    have hp := sectorO_len hS
    have s2 := readRec_br g s.pay (by omega) hg
    cases hR : readR g s.pay with
    | none =>
      rw [hR] at s2
      refine Fn.of tys_ok Tryd.func21 rfl rfl (Nat.le_of_ble_eq_true rfl) ?_
      conv => whnf
      apply aDraw.tree tys_ok mixed (.one 0 (.one 1 (.one 2 (.one 3 (.two 4 (.two 5 (.one 6 (.one 7 (.one 8 (.one 9 (.one 10 (.one 11 .fin)))))) 9 (.one 5 (.one 6 (.one 7 (.one 8 (.one 10 (.one 11 .fin))))))) 9 (.one 4 (.one 5 (.one 6 (.one 7 (.one 8 (.one 10 (.one 11 .fin)))))))))))) [10, 11, 13, 14, 15, 16, 17, 18, 19, 20, 21] (by kernel_rfl)
      · conv => whnf
        refine And.intro ?_ ?_
        · conv => whnf
          refine Fn.closed (rlogAt_fn g copy slot hg hL) rfl ?_
          rintro _ rfl
          conv => whnf
          refine And.intro ?_ ?_
          · conv => whnf
            refine Fn.closed (s1) rfl ?_
            rintro _ rfl
            conv => whnf
            exact ⟨rfl, rfl⟩
          · conv => whnf
            refine Fn.closed (s1) rfl ?_
            rintro _ rfl
            conv => whnf
            exact ⟨rfl, rfl⟩
        · conv => whnf
          refine Fn.closed (rlogAt_fn g copy slot hg hL) rfl ?_
          rintro _ rfl
          conv => whnf
          refine Fn.closed (s1) rfl ?_
          rintro _ rfl
          conv => whnf
          exact ⟨rfl, rfl⟩
      conv => whnf
      refine Fn.closed (s2) rfl ?_
      rintro _ rfl
      conv => whnf
      exact ⟨_, fun c v h => zrec_sub c v false h, by simp only [hR]; rfl⟩
    | some r =>
      rw [hR] at s2
      refine Fn.of tys_ok Tryd.func21 rfl rfl (Nat.le_of_ble_eq_true rfl) ?_
      conv => whnf
      apply aDraw.tree tys_ok mixed (.one 0 (.one 1 (.one 2 (.one 3 (.two 4 (.two 5 (.one 6 (.one 7 (.one 8 (.one 9 (.one 10 (.one 11 .fin)))))) 9 (.one 5 (.one 6 (.one 7 (.one 8 (.one 10 (.one 11 .fin))))))) 9 (.one 4 (.one 5 (.one 6 (.one 7 (.one 8 (.one 10 (.one 11 .fin)))))))))))) [10, 11, 13, 14, 15, 16, 17, 18, 19, 20, 21] (by kernel_rfl)
      · conv => whnf
        refine And.intro ?_ ?_
        · conv => whnf
          refine Fn.closed (rlogAt_fn g copy slot hg hL) rfl ?_
          rintro _ rfl
          conv => whnf
          refine And.intro ?_ ?_
          · conv => whnf
            refine Fn.closed (s1) rfl ?_
            rintro _ rfl
            conv => whnf
            exact ⟨rfl, rfl⟩
          · conv => whnf
            refine Fn.closed (s1) rfl ?_
            rintro _ rfl
            conv => whnf
            exact ⟨rfl, rfl⟩
        · conv => whnf
          refine Fn.closed (rlogAt_fn g copy slot hg hL) rfl ?_
          rintro _ rfl
          conv => whnf
          refine Fn.closed (s1) rfl ?_
          rintro _ rfl
          conv => whnf
          exact ⟨rfl, rfl⟩
      conv => whnf
      refine Fn.closed (s2) rfl ?_
      rintro _ rfl
      conv => whnf
      refine boolI (fun t => ?_) (fun t => ?_) <;> (repeat rw [Int.toNat_natCast] at t) <;> (try simp only [Option.getD_some] at t) <;> conv => whnf
      · exact ⟨_, fun c v h => zrec_sub c v false h, by simp only [hR, if_neg t]; rfl⟩
      · exact ⟨_, fun _ _ h => h, by simp only [hR, if_pos t]; rfl⟩
def heavyG (l : List Gt) : Bool := decide (80 < l.length) || l.any fun x => decide (300 < x.bytes.length)
theorem heavyG_no {l : List Gt} (h : heavyG l = false) : l.length ≤ 80 ∧ ∀ x ∈ l, x.bytes.length ≤ 300 := by
  simp only [heavyG, Bool.or_eq_false_iff, decide_eq_false_iff_not] at h
  exact ⟨by omega, fun x hx => by have := List.any_eq_false.1 h.2 x hx; simp at this; omega⟩
theorem heavyG_fn (l : List Gt) : Fn Tryd.prog 13 [gotsA l] fun r => r = .v (.bool (heavyG l)) := by
  refine Fn.of tys_ok Tryd.func13 rfl rfl (Nat.le_of_ble_eq_true rfl) ?_
  conv => whnf
  refine boolI (fun h1 => ?_) (fun h1 => ?_) <;> (repeat rw [Int.toNat_natCast] at h1) <;> conv => whnf
  · exact ⟨_, fun _ _ h => h, by simp [heavyG, show 80 < l.length by omega]⟩
  refine aLoop.rule Nat (fun k => ([(0, gotsA l), (3, .v (.int .i64 k))], [])) (fun k => k ≤ l.length ∧ (l.take k).any (fun x => decide (300 < x.bytes.length)) = false) (fun k => l.length - k) 0 ⟨Nat.zero_le _, by simp⟩ (Wk.plain (by repeat' first | exact trivial | exact rfl | refine And.intro ?_ ?_ | exact wsucc (by omega)) (by repeat' first | exact trivial | exact rfl | refine And.intro ?_ ?_ | exact wsucc (by omega)) rfl rfl rfl) ?_
  rintro k ⟨hk, hI⟩
  conv => whnf
  refine boolI (fun h3 => ?_) (fun h3 => ?_) <;> (repeat rw [Int.toNat_natCast] at h3) <;> conv => whnf
  · refine ⟨by omega, ?_⟩
    conv => whnf
    refine boolI (fun h4 => ?_) (fun h4 => ?_) <;> (repeat rw [Int.toNat_natCast] at h4) <;> conv => whnf
    · have e : (l.any fun x => decide (300 < x.bytes.length)) = true := List.any_eq_true.2 ⟨_, getD_mem h3, decide_eq_true (show 300 < (l.getD k ⟨0, []⟩).bytes.length by omega)⟩
      exact ⟨_, fun _ _ h => h, by rw [heavyG, e]; simp⟩
    · refine ⟨k + 1, ⟨by omega, ?_⟩, by omega, (Wk.plain (by repeat' first | exact trivial | exact rfl | refine And.intro ?_ ?_ | exact wsucc (by omega)) (by repeat' first | exact trivial | exact rfl | refine And.intro ?_ ?_ | exact wsucc (by omega)) rfl rfl rfl)⟩
      rw [List.take_succ_eq_append_getElem h3, List.any_append, hI]
      rw [List.getD_eq_getElem?_getD, List.getElem?_eq_getElem h3] at h4
      simp at h4 ⊢
      omega
  · have e : k = l.length := by omega
    rw [e, List.take_length] at hI
    exact ⟨_, fun _ _ h => h, by simp [heavyG, hI]; omega⟩

def oneO (o : Option Rc) (a : An) (seq at_ of_ left : Int) : Bool := match o with | some r => isOne r a seq at_ of_ left | none => false
/-- What both copies of a slot come to: the record, who is wanting it, how it went. -/
def lookT (p q : Option Rc) (b1 b2 : Bool) : Rc × List Int × Int :=
  if b1 && b2 then (p.getD zeroC, [], 1) else if b1 then (p.getD zeroC, [1], 1) else if b2 then (q.getD zeroC, [0], 1) else if p.isSome || q.isSome then (zeroC, [], 2) else (zeroC, [], 3)
def lookR (g : Geo) (a : An) (x y : Gt) (slot seq at_ of_ left : Int) : Rc × List Int × Int :=
  lookT (saysR g x 0 slot) (saysR g y 1 slot) (oneO (saysR g x 0 slot) a seq at_ of_ left) (oneO (saysR g y 1 slot) a seq at_ of_ left)
theorem look0_sub (c : Ctx) (u : Value) (how e : Int) (h : Rd (.tp [.ag [.v (.int .i64 0), .v (.int .i64 0), .v (.int .i64 0), .v (.int .i64 0), .v (.int .i64 0), .v (.int .i64 0), .v (.int .i64 0), .v (.slice none 0 0)], .v (.slice none 0 0), .v (.int .i64 how), .v (.int .i64 e)]) c u) : Rd (.tp [.ag (rcC zeroC), iA [], .v (.int .i64 how), .v (.int .i64 e)]) c u := by
  refine tp_sub ?_ c u h
  exact ⟨ag_sub ⟨fun _ _ h => h, fun _ _ h => h, fun _ _ h => h, fun _ _ h => h, fun _ _ h => h, fun _ _ h => h, fun _ _ h => h, nil_sl _ _, trivial⟩, nil_sl _ _, fun _ _ h => h, fun _ _ h => h, trivial⟩
end Go.Proofs.YteecmgonbdbhdaaDoor.A
end

/-
Packages pair, casemateref15: what both copies come to.
-/
section
namespace Go.Proofs.YteecmgonbdbhdaaDoor.A
open Go.RowKit

theorem one_sub {x : Int} (c : Ctx) (u : Value) (h : Rd (.sl 1 1 fun i => [[AV.v (.int .i64 x)]].getD i []) c u) : Rd (iA [x]) c u :=
  Rd.congr (n := 1) (n' := [x].length) rfl (fun i hi => by
    have : i = 0 := by simp at hi; omega
    subst this
    rfl) h
theorem lookF0 (r : Rc) (c : Ctx) (u : Value) (h : Rd (.tp [.ag (rcC r), .v (.slice none 0 0), .v (.int .i64 1), .v (.int .i64 0)]) c u) : Rd (.tp [.ag (rcC r), iA [], .v (.int .i64 1), .v (.int .i64 0)]) c u   := by
  refine tp_sub ?_ c u h
  exact ⟨fun _ _ h => h, nil_sl _ _, fun _ _ h => h, fun _ _ h => h, trivial⟩
theorem lookF1 (r : Rc) (x : Int) (c : Ctx) (u : Value) (h : Rd (.tp [.ag (rcC r), .sl 1 1 fun i => [[AV.v (.int .i64 x)]].getD i [], .v (.int .i64 1), .v (.int .i64 0)]) c u) : Rd (.tp [.ag (rcC r), iA [x], .v (.int .i64 1), .v (.int .i64 0)]) c u   := by
  refine tp_sub ?_ c u h
  exact ⟨fun _ _ h => h, one_sub, fun _ _ h => h, fun _ _ h => h, trivial⟩
theorem rlookZ (how : Int) (c : Ctx) (u : Value) (h : Rd (.tp [.ag [.v (.int .i64 0), .v (.int .i64 0), .v (.int .i64 0), .v (.int .i64 0), .v (.int .i64 0), .v (.int .i64 0), .v (.int .i64 0), .v (.slice none 0 0)], .v (.slice none 0 0), .v (.int .i64 how)]) c u) : Rd (.tp [.ag (rcC zeroC), iA [], .v (.int .i64 how)]) c u := by
  refine tp_sub ?_ c u h
  exact ⟨ag_sub ⟨fun _ _ h => h, fun _ _ h => h, fun _ _ h => h, fun _ _ h => h, fun _ _ h => h, fun _ _ h => h, fun _ _ h => h, nil_sl _ _, trivial⟩, nil_sl _ _, fun _ _ h => h, trivial⟩
theorem rlookF0 (r : Rc) (c : Ctx) (u : Value) (h : Rd (.tp [.ag (rcC r), .v (.slice none 0 0), .v (.int .i64 1)]) c u) : Rd (.tp [.ag (rcC r), iA [], .v (.int .i64 1)]) c u := by
  refine tp_sub ?_ c u h
  exact ⟨fun _ _ h => h, nil_sl _ _, fun _ _ h => h, trivial⟩
theorem rlookF1 (r : Rc) (x : Int) (c : Ctx) (u : Value) (h : Rd (.tp [.ag (rcC r), .sl 1 1 fun i => [[AV.v (.int .i64 x)]].getD i [], .v (.int .i64 1)]) c u) : Rd (.tp [.ag (rcC r), iA [x], .v (.int .i64 1)]) c u := by
  refine tp_sub ?_ c u h
  exact ⟨fun _ _ h => h, one_sub, fun _ _ h => h, trivial⟩
set_option maxRecDepth 100000 in
theorem look_fn (g : Geo) (a : An) (x y : Gt) (slot seq at_ of_ left : Int) (hl : a.label.size ≤ 1000000) (hh : a.homes.length ≤ 1000000) (hx : x.bytes.length ≤ 100000) (hy : y.bytes.length ≤ 100000) :
    Fn Tryd.prog 15 [.ag (geoC g), .ag (anC a), .ag (gotC x), .ag (gotC y), .v (.int .i64 slot), .v (.int .i64 seq), .v (.int .i64 at_), .v (.int .i64 of_), .v (.int .i64 left)]
      fun r => r = if okG g && anOk g a && inB slot 0 (g.sl - 1) then .tp [.ag (rcC (lookR g a x y slot seq at_ of_ left).1), iA (lookR g a x y slot seq at_ of_ left).2.1, .v (.int .i64 (lookR g a x y slot seq at_ of_ left).2.2), .v (.int .i64 0)] else .tp [.ag (rcC zeroC), iA [], .v (.int .i64 0), .v (.int .i64 1)] := by
  have s1 := acheck_fn g a hl hh
  cases hA : okG g && anOk g a with
  | false =>
    rw [hA] at s1
    refine Fn.of tys_ok Tryd.func15 rfl rfl (Nat.le_of_ble_eq_true rfl) ?_
    conv => whnf
    refine Fn.closed (s1) rfl ?_
    rintro _ rfl
    conv => whnf
    exact ⟨_, fun c u h => look0_sub c u 0 1 h, rfl⟩
  | true =>
    rw [hA] at s1
    have s2 := says_fn g x 0 slot hx
    have s3 := says_fn g y 1 slot hy
    unfold lookR
    generalize saysR g x 0 slot = p at s2 ⊢
    generalize saysR g y 1 slot = q at s3 ⊢
    have i1 : ∀ r, p = some r → Fn Tryd.prog 16 [.ag (rcC r), .ag (anC a), .v (.int .i64 seq), .v (.int .i64 at_), .v (.int .i64 of_), .v (.int .i64 left)] fun x => x = .v (.bool (oneO p a seq at_ of_ left)) := by
      rintro r rfl; exact is_fn r a seq at_ of_ left
    have i2 : ∀ r, q = some r → Fn Tryd.prog 16 [.ag (rcC r), .ag (anC a), .v (.int .i64 seq), .v (.int .i64 at_), .v (.int .i64 of_), .v (.int .i64 left)] fun x => x = .v (.bool (oneO q a seq at_ of_ left)) := by
      rintro r rfl; exact is_fn r a seq at_ of_ left
    have n1 : p = none → oneO p a seq at_ of_ left = false := by rintro rfl; rfl
    have n2 : q = none → oneO q a seq at_ of_ left = false := by rintro rfl; rfl
    generalize oneO p a seq at_ of_ left = b1 at i1 n1 ⊢
    generalize oneO q a seq at_ of_ left = b2 at i2 n2 ⊢
    by_cases hs : 0 ≤ slot ∧ slot < g.sl
    · rw [show inB slot 0 (g.sl - 1) = true from inB_iff.2 (by omega)]
      rcases p with _ | p <;> rcases q with _ | q <;> cases b1 <;> cases b2
      all_goals first
        | exact absurd (n1 rfl) (by decide)
        | exact absurd (n2 rfl) (by decide)
        | skip
      all_goals
        refine Fn.of tys_ok Tryd.func15 rfl rfl (Nat.le_of_ble_eq_true rfl) ?_
        conv => whnf
        refine Fn.closed (s1) rfl ?_
        rintro _ rfl
        conv => whnf
        refine boolI (fun t1 => ?_) (fun t1 => ?_) <;> (repeat rw [Int.toNat_natCast] at t1) <;> conv => whnf
        · exfalso; omega
        refine boolI (fun t2 => ?_) (fun t2 => ?_) <;> (repeat rw [Int.toNat_natCast] at t2) <;> conv => whnf
        · exfalso; omega
        refine aLoop.rounds 3 ?_
        conv => whnf
        repeat' (first | (refine aSeq.go ?_; conv => whnf) | (refine boolI (fun _ => ?_) (fun _ => ?_) <;> conv => whnf) | (refine Fn.closed (s2) rfl ?_; rintro _ rfl; conv => whnf) | (refine Fn.closed (s3) rfl ?_; rintro _ rfl; conv => whnf) | (refine Fn.closed (i1 _ rfl) rfl ?_; rintro _ rfl; conv => whnf) | (refine Fn.closed (i2 _ rfl) rfl ?_; rintro _ rfl; conv => whnf) | (refine And.intro (by first | omega | exact of_decide_eq_true rfl) ?_; conv => whnf))
        first
          | exact ⟨_, fun c u h => look0_sub c u 2 0 h, rfl⟩
          | exact ⟨_, fun c u h => look0_sub c u 3 0 h, rfl⟩
          | exact ⟨_, fun c u h => lookF0 _ c u h, rfl⟩
          | exact ⟨_, fun c u h => lookF1 _ _ c u h, rfl⟩
    · rw [show inB slot 0 (g.sl - 1) = false by rw [Bool.eq_false_iff]; intro h; have := inB_iff.1 h; omega]
      refine Fn.of tys_ok Tryd.func15 rfl rfl (Nat.le_of_ble_eq_true rfl) ?_
      conv => whnf
      refine Fn.closed (s1) rfl ?_
      rintro _ rfl
      conv => whnf
      refine boolI (fun t1 => ?_) (fun t1 => ?_) <;> (repeat rw [Int.toNat_natCast] at t1) <;> conv => whnf
      · exact ⟨_, fun c u h => look0_sub c u 0 1 h, rfl⟩
      refine boolI (fun t2 => ?_) (fun t2 => ?_) <;> (repeat rw [Int.toNat_natCast] at t2) <;> conv => whnf
      · exact ⟨_, fun c u h => look0_sub c u 0 1 h, rfl⟩
      · exfalso; omega
set_option maxRecDepth 100000 in
theorem rlook_fn (g : Geo) (a : An) (x y : Gt) (slot seq at_ of_ left : Int) (hg : okG g = true) (hs : inB slot 0 (g.sl - 1) = true) (hx : x.bytes.length ≤ 100000) (hy : y.bytes.length ≤ 100000) :
    Fn Tryd.prog 23 [.ag (geoC g), .ag (anC a), .ag (gotC x), .ag (gotC y), .v (.int .i64 slot), .v (.int .i64 seq), .v (.int .i64 at_), .v (.int .i64 of_), .v (.int .i64 left)]
      fun r => r = .tp [.ag (rcC (lookR g a x y slot seq at_ of_ left).1), iA (lookR g a x y slot seq at_ of_ left).2.1, .v (.int .i64 (lookR g a x y slot seq at_ of_ left).2.2)] := by
  have s2 := recSays_fn g x 0 slot hx hg (by rw [okL, hs]; rfl)
  have s3 := recSays_fn g y 1 slot hy hg (by rw [okL, hs]; rfl)
  unfold lookR
  generalize saysR g x 0 slot = p at s2 ⊢
  generalize saysR g y 1 slot = q at s3 ⊢
  have i1 : ∀ r, p = some r → Fn Tryd.prog 17 [.ag (rcC r), .ag (anC a), .v (.int .i64 seq), .v (.int .i64 at_), .v (.int .i64 of_), .v (.int .i64 left)] fun x => x = .v (.bool (oneO p a seq at_ of_ left)) := by
    rintro r rfl; exact rone_fn r a seq at_ of_ left
  have i2 : ∀ r, q = some r → Fn Tryd.prog 17 [.ag (rcC r), .ag (anC a), .v (.int .i64 seq), .v (.int .i64 at_), .v (.int .i64 of_), .v (.int .i64 left)] fun x => x = .v (.bool (oneO q a seq at_ of_ left)) := by
    rintro r rfl; exact rone_fn r a seq at_ of_ left
  have n1 : p = none → oneO p a seq at_ of_ left = false := by rintro rfl; rfl
  have n2 : q = none → oneO q a seq at_ of_ left = false := by rintro rfl; rfl
  generalize oneO p a seq at_ of_ left = b1 at i1 n1 ⊢
  generalize oneO q a seq at_ of_ left = b2 at i2 n2 ⊢
  rcases p with _ | p <;> rcases q with _ | q <;> cases b1 <;> cases b2
  all_goals first
    | exact absurd (n1 rfl) (by decide)
    | exact absurd (n2 rfl) (by decide)
    | skip
  all_goals
    refine Fn.of tys_ok Tryd.func23 rfl rfl (Nat.le_of_ble_eq_true rfl) ?_
    conv => whnf
    repeat' (first | (refine aSeq.go ?_; conv => whnf) | (refine boolI (fun _ => ?_) (fun _ => ?_) <;> conv => whnf) | (refine Fn.closed (s2) rfl ?_; rintro _ rfl; conv => whnf) | (refine Fn.closed (s3) rfl ?_; rintro _ rfl; conv => whnf) | (refine Fn.closed (i1 _ rfl) rfl ?_; rintro _ rfl; conv => whnf) | (refine Fn.closed (i2 _ rfl) rfl ?_; rintro _ rfl; conv => whnf) | (refine And.intro (by first | omega | exact of_decide_eq_true rfl) ?_; conv => whnf))
    first
      | exact ⟨_, fun c u h => rlookZ 2 c u h, rfl⟩
      | exact ⟨_, fun c u h => rlookZ 3 c u h, rfl⟩
      | exact ⟨_, fun c u h => rlookF0 _ c u h, rfl⟩
      | exact ⟨_, fun c u h => rlookF1 _ _ c u h, rfl⟩
end Go.Proofs.YteecmgonbdbhdaaDoor.A
end

/-
Plain law: a sector that was made opens and tells what it was made of.
-/
section
namespace Go.Proofs.YteecmgonbdbhdaaDoor

theorem take_all {l m : List UInt8} {n : Nat} (h : l.length = n) : (l ++ m).take n = l := by subst h; simp
theorem drop_all {l m : List UInt8} {n : Nat} (h : l.length = n) : (l ++ m).drop n = m := by subst h; simp
theorem sealHead_len (a s : Int) (p : List UInt8) : (sealHead a s p).length = p.length + 7 := by
  simp only [sealHead, List.length_append, List.length_cons, leB_len]
theorem sealB_len (a s : Int) (p : List UInt8) : (sealB a s p).length = p.length + 11 := by
  simp only [sealB, List.length_append, sealHead_len, leB_len]
theorem seal_open {a s : Int} {p : List UInt8} (h : okS a s p) : openE (sealB a s p) = 0 ∧ secAddr (sealB a s p) = a ∧ secStamp (sealB a s p) = s ∧ secPay (sealB a s p) = p := by
  obtain ⟨h1, h2, h3, h4, h5⟩ := h
  have hl := sealB_len a s p
  have hs := sumC_le (sealHead a s p)
  have e1 : sealB a s p = sealHead a s p ++ leB 4 (sumC (sealHead a s p)) := rfl
  have e2 : sealB a s p = (UInt8.ofNat p.length :: p) ++ (leB 2 a.toNat ++ (leB 4 s.toNat ++ leB 4 (sumC (sealHead a s p)))) := by rw [e1]; simp only [sealHead, List.append_assoc]
  have e3 : sealB a s p = ((UInt8.ofNat p.length :: p) ++ leB 2 a.toNat) ++ (leB 4 s.toNat ++ leB 4 (sumC (sealHead a s p))) := by rw [e2, List.append_assoc]
  have hpn : partN (sealB a s p) = p.length := by
    rw [e2]
    show (UInt8.ofNat p.length).toNat = p.length
    rw [UInt8.toNat_ofNat_of_lt']
    exact Nat.lt_of_le_of_lt h5 (by decide)
  refine ⟨?_, ?_, ?_, ?_⟩
  · unfold openE
    rw [if_neg (by omega), if_neg, if_pos]
    · refine ⟨?_, by omega⟩
      simp only [partOk, decide_eq_true_eq]
      omega
    · rw [hl, show p.length + 11 - 4 = p.length + 7 by omega, e1, drop_all (sealHead_len a s p), take_all (sealHead_len a s p), leN_leB _ _ (by have : (256 : Nat) ^ 4 = 4294967296 := rfl; omega)]
      simp
  · unfold secAddr
    rw [hl, show p.length + 11 - 10 = p.length + 1 by omega, e2, drop_all (by simp), take_all (leB_len 2 _), leN_leB _ _ (by have : (256 : Nat) ^ 2 = 65536 := rfl; omega)]
    omega
  · unfold secStamp
    rw [hl, show p.length + 11 - 8 = p.length + 3 by omega, e3, drop_all (by simp [leB_len]), take_all (leB_len 4 _), leN_leB _ _ (by have : (256 : Nat) ^ 4 = 4294967296 := rfl; omega)]
    omega
  · unfold secPay
    rw [hl, show p.length + 11 - 11 = p.length by omega, e2]
    simp
end Go.Proofs.YteecmgonbdbhdaaDoor
end

/-
Packages casematelaw07, casemateref08, casematelaw17: some geometry, a new volume's anchor, a record's reading.
-/
section
namespace Go.Proofs.YteecmgonbdbhdaaDoor.A
open Go.RowKit

/-- int(uint(x) % n). -/
def modU (x : Int) (n : Int) : Int := IntKind.i64.wrap ((IntKind.u64.wrap x).tmod n)
theorem modU_in {x n : Int} (h : 0 < n) (h2 : n ≤ 4611686018427387904) : 0 ≤ modU x n ∧ modU x n < n := by
  have h0 : 0 ≤ IntKind.u64.wrap x := by rw [IntKind.wrap_u64]; omega
  have h1 := Int.tmod_nonneg n h0
  have h3 := Int.tmod_lt_of_pos (IntKind.u64.wrap x) h
  unfold modU
  rw [wi (by omega)]
  exact ⟨h1, h3⟩
def someG (z d sp sl an : Int) : Geo := ⟨1 + modU z 4, 1 + modU d 4, modU sp 3, 14 + modU sl 17, 1 + modU an 3⟩
theorem someG_ok (z d sp sl an : Int) : okG (someG z d sp sl an) = true := by
  have h1 := modU_in (x := z) (n := 4) (by decide) (by decide)
  have h2 := modU_in (x := d) (n := 4) (by decide) (by decide)
  have h3 := modU_in (x := sp) (n := 3) (by decide) (by decide)
  have h4 := modU_in (x := sl) (n := 17) (by decide) (by decide)
  have h5 := modU_in (x := an) (n := 3) (by decide) (by decide)
  refine okG_iff.2 ?_
  simp only [someG]
  omega
theorem some_fn (z d sp sl an : Int) : Fn Tryd.prog 47 [.v (.int .i64 z), .v (.int .i64 d), .v (.int .i64 sp), .v (.int .i64 sl), .v (.int .i64 an)] fun r => r = .ag (geoC (someG z d sp sl an)) := by
  have h1 := modU_in (x := z) (n := 4) (by decide) (by decide)
  have h2 := modU_in (x := d) (n := 4) (by decide) (by decide)
  have h4 := modU_in (x := sl) (n := 17) (by decide) (by decide)
  have h5 := modU_in (x := an) (n := 3) (by decide) (by decide)
  refine Fn.of tys_ok Tryd.func47 rfl rfl (Nat.le_of_ble_eq_true rfl) ?_
  conv => whnf
  repeat' (refine And.intro (by decide) ?_; conv => whnf)
  refine ⟨_, fun _ _ h => h, ?_⟩
  simp only [geoC, someG]
  rw [← wi (n := 1 + modU z 4) (by omega), ← wi (n := 1 + modU d 4) (by omega), ← wi (n := 14 + modU sl 17) (by omega), ← wi (n := 1 + modU an 3) (by omega)]
  rfl
def firstA (g : Geo) (s : ByteArray) : An := ⟨1, 0, 0, 1, 0, s, List.replicate g.z.toNat ⟨(List.range (g.d + 1).toNat).map Int.ofNat, g.d + 1, 0⟩⟩
def rangeR (n : Nat) : List (List AV) := (List.range n).map fun i => [.v (.int .i64 (i : Nat))]
theorem rangeR_succ (n : Nat) : rangeR (n + 1) = rangeR n ++ [[.v (.int .i64 (n : Nat))]] := by simp [rangeR, List.range_succ]
theorem rangeR_get {n i : Nat} (h : i < n) : (rangeR n).getD i [] = [.v (.int .i64 (i : Nat))] := getD_range h
def home0 (g : Geo) : List AV := [.sl 1 (g.d + 1).toNat fun i => (rangeR (g.d + 1).toNat).getD i [], .v (.int .i64 (g.d + 1)), .v (.int .i64 0)]
theorem home0_sub (g : Geo) : SubL (home0 g) (hmC ⟨(List.range (g.d + 1).toNat).map Int.ofNat, g.d + 1, 0⟩) :=
  ⟨fun _ _ h => Rd.congr (by simp) (fun i hi => by rw [rangeR_get hi, getD_range hi]; rfl) h, fun _ _ h => h, fun _ _ h => h, trivial⟩
theorem first_fn (g : Geo) (s : ByteArray) (hg : okG g = true) : Fn Tryd.prog 48 [.ag (geoC g), .v (.string s)] fun r => r = .ag (anC (firstA g s)) := by
  obtain ⟨h1, h2, h3, h4, h5⟩ := okG_iff.1 hg
  have w1 : IntKind.i64.wrap (g.d + 1) = g.d + 1 := wi (by omega)
  refine Fn.of tys_ok Tryd.func48 rfl rfl (Nat.le_of_ble_eq_true rfl) ?_
  conv => whnf
  refine aLoop.rule Nat (fun k => ([(2, .bp 0 0), (4, .bp 1 0), (5, .bp 2 0), (6, .v (.int .i64 k))], [.box 23 (geoC g), .box 26 [.v (.int .i64 0), .v (.int .i64 0), .v (.int .i64 0), .v (.int .i64 0), .v (.int .i64 0), .v (.string ⟨#[]⟩), .v (.slice none 0 0)], .box 26 [.v (.int .i64 1), .v (.int .i64 0), .v (.int .i64 0), .v (.int .i64 1), .v (.int .i64 0), .v (.string s), .ow 3 k], .row 91 3 (List.replicate k (home0 g))])) (fun k => k ≤ g.z.toNat) (fun k => g.z.toNat - k) 0 (Nat.zero_le _) ⟨[(1002006, 91, 3)], ⟨rfl, rfl, trivial⟩, ⟨rfl, rfl, rfl, rfl, trivial⟩, ⟨rfl, rfl, rfl, rfl, trivial⟩, rfl, rfl, rfl⟩ ?_
  intro k hk
  conv => whnf
  refine boolI (fun t1 => ?_) (fun t1 => ?_) <;> (repeat rw [Int.toNat_natCast] at t1) <;> conv => whnf
  · refine aLoop.rule Nat (fun j => ([(2, .bp 0 0), (4, .bp 1 0), (5, .bp 2 0), (6, .v (.int .i64 k)), (7, .bp 4 0), (8, .v (.int .i64 j))], [.box 23 (geoC g), .box 26 [.v (.int .i64 0), .v (.int .i64 0), .v (.int .i64 0), .v (.int .i64 0), .v (.int .i64 0), .v (.string ⟨#[]⟩), .v (.slice none 0 0)], .box 26 [.v (.int .i64 1), .v (.int .i64 0), .v (.int .i64 0), .v (.int .i64 1), .v (.int .i64 0), .v (.string s), .ow 3 k], .row 91 3 (List.replicate k (home0 g)), .box 91 [.ow 5 j, .v (.int .i64 (g.d + 1)), .v (.int .i64 0)], .row 3 1 (rangeR j)])) (fun j => j ≤ (g.d + 1).toNat) (fun j => (g.d + 1).toNat - j) 0 (Nat.zero_le _) ⟨[(1004000, 3, 1)], ⟨rfl, rfl, trivial⟩, ⟨rfl, rfl, rfl, rfl, rfl, rfl, trivial⟩, ⟨rfl, rfl, rfl, rfl, by rw [w1]; rfl, rfl, trivial⟩, rfl, rfl, rfl⟩ ?_
    intro j hj
    conv => whnf
    refine boolI (fun t2 => ?_) (fun t2 => ?_) <;> (repeat rw [Int.toNat_natCast] at t2) <;> conv => whnf
    · refine And.intro rfl ?_
      conv => whnf
      refine And.intro ⟨by simp [rangeR], by omega⟩ ?_
      conv => whnf
      exact ⟨j + 1, by omega, by omega, (Wk.plain (by repeat' first | exact trivial | exact rfl | refine And.intro ?_ ?_ | exact wsucc (by omega) | exact congrArg (AB.row _ _) (rangeR_succ j)) (by repeat' first | exact trivial | exact rfl | refine And.intro ?_ ?_ | exact wsucc (by omega) | exact congrArg (AB.row _ _) (rangeR_succ j)) rfl rfl rfl)⟩
    · have ej : j = (g.d + 1).toNat := by omega
      refine And.intro (by simp [rangeR]) ?_
      conv => whnf
      refine And.intro rfl ?_
      conv => whnf
      refine And.intro ⟨by simp, by omega⟩ ?_
      conv => whnf
      have er : AB.row 91 3 (List.replicate (k + 1) (home0 g)) = .row 91 3 (List.replicate k (home0 g) ++ [[AV.sl 1 j fun i => (rangeR j).getD i [], .v (.int .i64 (g.d + 1)), .v (.int .i64 0)]]) := by
        rw [List.replicate_succ', home0, ← ej]
      exact ⟨k + 1, by omega, by omega, (Wk.plain (by repeat' first | exact trivial | exact rfl | refine And.intro ?_ ?_ | exact wsucc (by omega) | exact er) (by repeat' first | exact trivial | exact rfl | refine And.intro ?_ ?_ | exact wsucc (by omega) | exact er) rfl rfl rfl)⟩
  · refine And.intro (by simp) ?_
    conv => whnf
    have ek : k = g.z.toNat := by omega
    refine ⟨.ag (anC (firstA g s)), fun c u h => ?_, rfl⟩
    refine ag_sub ?_ c u h
    refine ⟨fun _ _ h => h, fun _ _ h => h, fun _ _ h => h, fun _ _ h => h, fun _ _ h => h, fun _ _ h => h, fun c u h => Rd.sub (by simp [firstA, ek]) (fun i hi => ?_) h, trivial⟩
    rw [firstA, List.getD_eq_getElem?_getD, List.getD_eq_getElem?_getD, List.getElem?_replicate_of_lt hi, List.getElem?_replicate_of_lt (by omega)]
    exact home0_sub g
theorem cell17_fn (g : Geo) (x : Rc) (copy slot : Int) (hok : okR g x = true) (hl : okL g copy slot = true) : Fn Tryd.prog 28 [.ag (geoC g), .ag (rcC x), .v (.int .i64 copy), .v (.int .i64 slot)] fun r => r = .ag (gotC ⟨0, cellB g x copy slot⟩) := by
  refine Fn.of tys_ok Tryd.func28 rfl rfl (Nat.le_of_ble_eq_true rfl) ?_
  conv => whnf
  refine Fn.closed (rrecCell_br g x copy slot hok hl) rfl ?_
  rintro _ rfl
  conv => whnf
  exact ⟨_, fun _ _ h => h, rfl⟩
/-- What a record's cell says. -/
theorem says_cell {g : Geo} {r : Rc} {copy slot : Int} (hg : okG g = true) (hok : okR g r = true) (hl : okL g copy slot = true) : saysR g ⟨0, cellB g r copy slot⟩ copy slot = some r := by
  have hb := logAt_bounds hg hl
  have hs := okR_seq hok
  have hn := recB_short hok
  obtain ⟨h1, h2, h3, h4⟩ := seal_open (a := logAt g copy slot) (s := r.seq) (p := recB r) ⟨hb.1, hb.2, hs.1, hs.2, by omega⟩
  unfold saysR
  rw [hg, hl]
  simp only [cellB, h1, h2, h3, h4, readR_recB hok]
  rfl
theorem says_err {g : Geo} {x : Gt} {copy slot : Int} (h : x.err ≠ 0) : saysR g x copy slot = none := by
  unfold saysR
  rw [decide_eq_false h]
  simp
theorem says_bad {g : Geo} {x : Gt} {copy slot : Int} (h : openE x.bytes ≠ 0) : saysR g x copy slot = none := by
  unfold saysR
  rw [decide_eq_false h]
  simp
end Go.Proofs.YteecmgonbdbhdaaDoor.A
end

/-
Package casematelaw17: its laws wake.
-/
section
namespace Go.Proofs.YteecmgonbdbhdaaDoor.A
open Go.RowKit

theorem look_is {g : Geo} {a : An} {x y : Gt} {slot seq at_ of_ left : Int} {q : Rc × List Int × Int} (hl : a.label.size ≤ 1000000) (hh : a.homes.length ≤ 1000000) (hx : x.bytes.length ≤ 100000) (hy : y.bytes.length ≤ 100000) (hg : okG g = true) (ha : anOk g a = true) (hs : inB slot 0 (g.sl - 1) = true)
    (h : lookR g a x y slot seq at_ of_ left = q) :
    Fn Tryd.prog 15 [.ag (geoC g), .ag (anC a), .ag (gotC x), .ag (gotC y), .v (.int .i64 slot), .v (.int .i64 seq), .v (.int .i64 at_), .v (.int .i64 of_), .v (.int .i64 left)]
      fun r => r = .tp [.ag (rcC q.1), iA q.2.1, .v (.int .i64 q.2.2), .v (.int .i64 0)] := by
  have s := look_fn g a x y slot seq at_ of_ left hl hh hx hy
  rw [hg, ha, hs, h] at s
  exact s
theorem lab_nil : labE [] = 0 := by rw [← labW_labE, labW]; simp
theorem firstA_ok {g : Geo} {s : ByteArray} (hg : okG g = true) (hs : labE s.data.toList = 0) : anOk g (firstA g s) = true := by
  obtain ⟨h1, h2, h3, h4, h5⟩ := okG_iff.1 hg
  have hp : plOk ((List.range (g.d + 1).toNat).map Int.ofNat) (g.d + 1) = true := by
    rcases (show g.d = 1 ∨ g.d = 2 ∨ g.d = 3 ∨ g.d = 4 by omega) with h | h | h | h <;> rw [h] <;> decide
  have hh : hmOk g ⟨(List.range (g.d + 1).toNat).map Int.ofNat, g.d + 1, 0⟩ = true := by
    simp [hmOk, hp, inB]
    omega
  simp [anOk, firstA, hs, inB]
  exact ⟨by omega, by omega, .inr hh⟩
def g17 : Geo := ⟨1, 1, 0, 14, 1⟩
def a17 : An := firstA g17 ⟨#[]⟩
def r17 : Rc := ⟨2, 1, 0, 1, 2, ⟨0, 0, []⟩⟩
theorem cellB_short {g : Geo} {r : Rc} (h : okR g r = true) (copy slot : Int) : (cellB g r copy slot).length ≤ 100000 := by
  have := recB_short h
  rw [cellB, sealB_len]
  omega
set_option maxRecDepth 100000 in
theorem wakes17_fn : Fn Tryd.prog 20 [] fun r => r = .v (.bool true) := by
  have s1 := some_fn 0 0 0 0 0
  rw [show someG 0 0 0 0 0 = g17 from rfl] at s1
  have s2 : Fn Tryd.prog 48 [.ag (geoC g17), .v (.string ⟨#[]⟩)] fun r => r = .ag (anC a17) := first_fn g17 ⟨#[]⟩ (by decide)
  have hA : anOk g17 a17 = true := firstA_ok (by decide) lab_nil
  have k1 : okR g17 r17 = true := by decide
  have k0 : okR g17 zeroC = true := by decide
  have c1 := cell17_fn g17 r17 1 4 k1 (by decide)
  have c0 := cell17_fn g17 zeroC 1 4 k0 (by decide)
  have l1 := look_is (g := g17) (a := a17) (x := ⟨6, []⟩) (y := ⟨0, cellB g17 r17 1 4⟩) (slot := 4) (seq := 1) (at_ := 1) (of_ := 2) (left := 14) (q := (r17, [0], 1)) (by decide) (by decide) (by decide) (cellB_short k1 1 4) (by decide) hA (by decide) (by
    unfold lookR
    rw [says_err (x := ⟨6, []⟩) (by decide), says_cell (by decide) k1 (by decide)]
    decide)
  have l2 := look_is (g := g17) (a := a17) (x := ⟨6, []⟩) (y := ⟨0, cellB g17 zeroC 1 4⟩) (slot := 4) (seq := 1) (at_ := 1) (of_ := 2) (left := 14) (q := (zeroC, [], 2)) (by decide) (by decide) (by decide) (cellB_short k0 1 4) (by decide) hA (by decide) (by
    unfold lookR
    rw [says_err (x := ⟨6, []⟩) (by decide), says_cell (by decide) k0 (by decide)]
    decide)
  have l3 := look_is (g := g17) (a := a17) (x := ⟨6, []⟩) (y := ⟨0, []⟩) (slot := 4) (seq := 1) (at_ := 1) (of_ := 2) (left := 14) (q := (zeroC, [], 3)) (by decide) (by decide) (by decide) (by decide) (by decide) hA (by decide) (by
    unfold lookR
    rw [says_err (x := ⟨6, []⟩) (by decide), says_bad (x := ⟨0, []⟩) (by decide)]
    decide)
  have i1 := ints_fn [0] [0] (by decide)
  refine Fn.of tys_ok Tryd.func20 rfl rfl (Nat.le_of_ble_eq_true rfl) ?_
  conv => whnf
  refine Fn.closed (s1) rfl ?_
  rintro _ rfl
  conv => whnf
  refine Fn.closed (s2) rfl ?_
  rintro _ rfl
  conv => whnf
  apply aDraw.tree tys_ok mixed (.one 0 (.one 1 (.one 2 (.one 3 (.one 4 (.two 5 (.two 6 (.one 7 (.one 8 (.one 9 (.one 10 (.one 11 (.one 12 (.one 13 (.one 14 (.one 15 (.one 16 .fin)))))))))) 12 (.one 6 (.one 7 (.one 8 (.one 9 (.one 10 (.one 11 (.one 13 (.one 14 (.one 15 (.one 16 .fin))))))))))) 12 (.one 5 (.one 6 (.one 7 (.one 8 (.one 9 (.one 10 (.one 11 (.one 13 (.one 14 (.one 15 (.one 16 .fin))))))))))))))))) [4, 5, 6, 7, 20, 21, 22, 23, 24, 25, 26, 27, 28, 29, 30, 31] (by kernel_rfl)
  · conv => whnf
    refine And.intro ?_ ?_
    · conv => whnf
      refine ACalls.sub _ ?_ (Fn.closed (c1) rfl ?_)
      · repeat' (first | exact trivial | exact fun _ _ h => h | exact nil_sl _ _ | refine And.intro ?_ ?_ | refine ag_sub ?_)
      rintro _ rfl
      conv => whnf
      refine And.intro ?_ ?_
      · conv => whnf
        refine ACalls.sub _ ?_ (Fn.closed (l1) rfl ?_)
        · repeat' (first | exact trivial | exact fun _ _ h => h | exact nil_sl _ _ | refine And.intro ?_ ?_ | refine ag_sub ?_)
        rintro _ rfl
        conv => whnf
        exact ⟨rfl, rfl⟩
      · conv => whnf
        refine ACalls.sub _ ?_ (Fn.closed (l1) rfl ?_)
        · repeat' (first | exact trivial | exact fun _ _ h => h | exact nil_sl _ _ | refine And.intro ?_ ?_ | refine ag_sub ?_)
        rintro _ rfl
        conv => whnf
        exact ⟨rfl, rfl⟩
    · conv => whnf
      refine ACalls.sub _ ?_ (Fn.closed (c1) rfl ?_)
      · repeat' (first | exact trivial | exact fun _ _ h => h | exact nil_sl _ _ | refine And.intro ?_ ?_ | refine ag_sub ?_)
      rintro _ rfl
      conv => whnf
      refine ACalls.sub _ ?_ (Fn.closed (l1) rfl ?_)
      · repeat' (first | exact trivial | exact fun _ _ h => h | exact nil_sl _ _ | refine And.intro ?_ ?_ | refine ag_sub ?_)
      rintro _ rfl
      conv => whnf
      exact ⟨rfl, rfl⟩
  conv => whnf
  apply aDraw.tree tys_ok mixed (.one 0 (.one 1 (.one 2 (.one 3 (.one 4 (.two 5 (.two 6 (.one 7 (.one 8 (.one 9 (.one 10 (.one 11 (.one 12 (.one 13 (.one 14 (.one 15 (.one 16 .fin)))))))))) 12 (.one 6 (.one 7 (.one 8 (.one 9 (.one 10 (.one 11 (.one 13 (.one 14 (.one 15 (.one 16 .fin))))))))))) 12 (.one 5 (.one 6 (.one 7 (.one 8 (.one 9 (.one 10 (.one 11 (.one 13 (.one 14 (.one 15 (.one 16 .fin))))))))))))))))) [8, 9, 10, 11, 32, 33, 34, 35, 36, 37, 38, 39, 40, 41, 42, 43] (by kernel_rfl)
  · conv => whnf
    refine And.intro ?_ ?_
    · conv => whnf
      refine ACalls.sub _ ?_ (Fn.closed (c0) rfl ?_)
      · repeat' (first | exact trivial | exact fun _ _ h => h | exact nil_sl _ _ | refine And.intro ?_ ?_ | refine ag_sub ?_)
      rintro _ rfl
      conv => whnf
      refine And.intro ?_ ?_
      · conv => whnf
        refine ACalls.sub _ ?_ (Fn.closed (l2) rfl ?_)
        · repeat' (first | exact trivial | exact fun _ _ h => h | exact nil_sl _ _ | refine And.intro ?_ ?_ | refine ag_sub ?_)
        rintro _ rfl
        conv => whnf
        exact ⟨rfl, rfl⟩
      · conv => whnf
        refine ACalls.sub _ ?_ (Fn.closed (l2) rfl ?_)
        · repeat' (first | exact trivial | exact fun _ _ h => h | exact nil_sl _ _ | refine And.intro ?_ ?_ | refine ag_sub ?_)
        rintro _ rfl
        conv => whnf
        exact ⟨rfl, rfl⟩
    · conv => whnf
      refine ACalls.sub _ ?_ (Fn.closed (c0) rfl ?_)
      · repeat' (first | exact trivial | exact fun _ _ h => h | exact nil_sl _ _ | refine And.intro ?_ ?_ | refine ag_sub ?_)
      rintro _ rfl
      conv => whnf
      refine ACalls.sub _ ?_ (Fn.closed (l2) rfl ?_)
      · repeat' (first | exact trivial | exact fun _ _ h => h | exact nil_sl _ _ | refine And.intro ?_ ?_ | refine ag_sub ?_)
      rintro _ rfl
      conv => whnf
      exact ⟨rfl, rfl⟩
  conv => whnf
  refine ACalls.sub _ ?_ (Fn.closed (l3) rfl ?_)
  · repeat' (first | exact trivial | exact fun _ _ h => h | exact nil_sl _ _ | refine And.intro ?_ ?_ | refine ag_sub ?_)
  rintro _ rfl
  conv => whnf
  refine ACalls.shut (i1).go ?_
  conv => whnf
  repeat' (refine And.intro (by first | rfl | omega | simp) ?_; conv => whnf)
  refine ACalls.sub _ ?_ (Fn.closed (i1) rfl ?_)
  · repeat' (first | exact trivial | exact fun _ _ h => h | exact nil_sl _ _ | exact one_sub | refine And.intro ?_ ?_ | refine ag_sub ?_)
  rintro _ rfl
  conv => whnf
  exact ⟨_, fun _ _ h => h, rfl⟩
end Go.Proofs.YteecmgonbdbhdaaDoor.A
end

/-
The law PairOthers.
-/
section
namespace Go.Proofs.YteecmgonbdbhdaaDoor.A
open Go.RowKit

theorem is_v (r : Rc) (a : An) (seq at_ of_ left : Int) (b : Bool) (h : isOne r a seq at_ of_ left = b) : Fn Tryd.prog 16 [.ag (rcC r), .ag (anC a), .v (.int .i64 seq), .v (.int .i64 at_), .v (.int .i64 of_), .v (.int .i64 left)] fun x => x = .v (.bool b) := by
  have := is_fn r a seq at_ of_ left
  rw [h] at this
  exact this
def imgZ : Img := ⟨0, 0, []⟩
theorem others_fn (a : An) (seq at_ of_ how n : Int) : Fn Tryd.prog 6 [.ag (anC a), .v (.int .i64 seq), .v (.int .i64 at_), .v (.int .i64 of_), .v (.int .i64 how), .v (.int .i64 n)] fun r => r = .v (.bool true) := by
  have b1 := modU_in (x := seq) (n := 1000) (by decide) (by decide)
  have b2 := modU_in (x := at_) (n := 10) (by decide) (by decide)
  have b3 := modU_in (x := n) (n := 10) (by decide) (by decide)
  have b4 := modU_in (x := of_) (n := 10) (by decide) (by decide)
  obtain ⟨Z, hZ⟩ : ∃ Z, Z = IntKind.i64.wrap (IntKind.i64.wrap (modU at_ 10 + 1) + modU of_ 10) := ⟨_, rfl⟩
  have eZ : Z = modU at_ 10 + 1 + modU of_ 10 := by rw [hZ, wi (n := modU at_ 10 + 1) (by omega), wi (by omega)]
  obtain ⟨N, hN⟩ : ∃ N, N = IntKind.i64.wrap (1 + modU n 10) := ⟨_, rfl⟩
  have eN : N = 1 + modU n 10 := by rw [hN, wi (by omega)]
  have w1 : IntKind.i64.wrap (modU seq 1000 + N) = modU seq 1000 + N := wi (by omega)
  have w2 : IntKind.i64.wrap (modU at_ 10 + N) = modU at_ 10 + N := wi (by omega)
  have w3 : IntKind.i64.wrap (Z + N) = Z + N := wi (by omega)
  have w4 : IntKind.i64.wrap (Z - 1) = Z - 1 := wi (by omega)
  have y1 := is_v ⟨1, modU seq 1000, a.epoch, modU at_ 10, Z, imgZ⟩ a (modU seq 1000) (modU at_ 10) Z 0 true (decide_eq_true ⟨show (1 : Int) ≠ 0 by decide, rfl, rfl, fun h => by omega, fun _ => rfl, .inl rfl⟩)
  have y2 := is_v ⟨1, modU seq 1000, a.epoch, modU at_ 10, Z, imgZ⟩ a (modU seq 1000) (modU at_ 10) 0 Z true (decide_eq_true ⟨show (1 : Int) ≠ 0 by decide, rfl, rfl, fun _ => Int.le_refl _, fun h => absurd rfl h, .inl rfl⟩)
  have n1 := is_v ⟨1, modU seq 1000, a.epoch, modU at_ 10, Z, imgZ⟩ a (modU seq 1000 + N) (modU at_ 10) Z 0 false (decide_eq_false (by simp only; omega))
  have n2 := is_v ⟨1, modU seq 1000, a.epoch, modU at_ 10, Z, imgZ⟩ a (modU seq 1000) (modU at_ 10 + N) Z 0 false (decide_eq_false (by simp only; omega))
  have n3 := is_v ⟨1, modU seq 1000, a.epoch, modU at_ 10, Z, imgZ⟩ a (modU seq 1000) (modU at_ 10) (Z + N) 0 false (decide_eq_false (by simp only; omega))
  have n4 := is_v ⟨1, modU seq 1000, a.epoch, modU at_ 10, Z, imgZ⟩ a (modU seq 1000) (modU at_ 10) 0 (Z - 1) false (decide_eq_false fun h => by have := h.2.2.2.1 rfl; simp only at this; omega)
  have n5 := is_v ⟨0, modU seq 1000, a.epoch, modU at_ 10, Z, imgZ⟩ a (modU seq 1000) (modU at_ 10) Z 0 false (decide_eq_false fun h => h.1 rfl)
  rw [← w1] at n1
  rw [← w2] at n2
  rw [← w3] at n3
  rw [← w4] at n4
  subst hN hZ
  refine Fn.of tys_ok Tryd.func6 rfl rfl (Nat.le_of_ble_eq_true rfl) ?_
  conv => whnf
  refine Fn.closed (heavyA_fn a) rfl ?_
  rintro _ rfl
  conv => whnf
  refine boolI (fun t1 => ?_) (fun t1 => ?_) <;> (repeat rw [Int.toNat_natCast] at t1) <;> conv => whnf
  · exact ⟨_, fun _ _ h => h, rfl⟩
  repeat' (refine And.intro (by decide) ?_; conv => whnf)
  refine ACalls.sub _ ?_ (Fn.closed (y1) rfl ?_)
  · repeat' (first | exact trivial | exact fun _ _ h => h | exact nil_sl _ _ | refine And.intro ?_ ?_ | refine ag_sub ?_)
  rintro _ rfl
  conv => whnf
  refine ACalls.sub _ ?_ (Fn.closed (y2) rfl ?_)
  · repeat' (first | exact trivial | exact fun _ _ h => h | exact nil_sl _ _ | refine And.intro ?_ ?_ | refine ag_sub ?_)
  rintro _ rfl
  conv => whnf
  refine And.intro (by decide) ?_
  conv => whnf
  repeat' (first | (refine boolI (fun _ => ?_) (fun _ => ?_) <;> conv => whnf) | (refine aSeq.go ?_; conv => whnf))
  · refine ACalls.sub _ ?_ (Fn.closed (n1) rfl ?_)
    · repeat' (first | exact trivial | exact fun _ _ h => h | exact nil_sl _ _ | refine And.intro ?_ ?_ | refine ag_sub ?_)
    rintro _ rfl
    conv => whnf
    refine Fn.closed (wakes17_fn) rfl ?_
    rintro _ rfl
    conv => whnf
    exact ⟨_, fun _ _ h => h, rfl⟩
  · refine ACalls.sub _ ?_ (Fn.closed (n2) rfl ?_)
    · repeat' (first | exact trivial | exact fun _ _ h => h | exact nil_sl _ _ | refine And.intro ?_ ?_ | refine ag_sub ?_)
    rintro _ rfl
    conv => whnf
    refine Fn.closed (wakes17_fn) rfl ?_
    rintro _ rfl
    conv => whnf
    exact ⟨_, fun _ _ h => h, rfl⟩
  · refine ACalls.sub _ ?_ (Fn.closed (n3) rfl ?_)
    · repeat' (first | exact trivial | exact fun _ _ h => h | exact nil_sl _ _ | refine And.intro ?_ ?_ | refine ag_sub ?_)
    rintro _ rfl
    conv => whnf
    refine Fn.closed (wakes17_fn) rfl ?_
    rintro _ rfl
    conv => whnf
    exact ⟨_, fun _ _ h => h, rfl⟩
  · refine ACalls.sub _ ?_ (Fn.closed (n4) rfl ?_)
    · repeat' (first | exact trivial | exact fun _ _ h => h | exact nil_sl _ _ | refine And.intro ?_ ?_ | refine ag_sub ?_)
    rintro _ rfl
    conv => whnf
    refine Fn.closed (wakes17_fn) rfl ?_
    rintro _ rfl
    conv => whnf
    exact ⟨_, fun _ _ h => h, rfl⟩
  · refine ACalls.sub _ ?_ (Fn.closed (n5) rfl ?_)
    · repeat' (first | exact trivial | exact fun _ _ h => h | exact nil_sl _ _ | refine And.intro ?_ ?_ | refine ag_sub ?_)
    rintro _ rfl
    conv => whnf
    refine Fn.closed (wakes17_fn) rfl ?_
    rintro _ rfl
    conv => whnf
    exact ⟨_, fun _ _ h => h, rfl⟩
end Go.Proofs.YteecmgonbdbhdaaDoor.A
end

/-
Arguments opened: what a handed value reads as: numbers, bytes, images, records, geometries.
-/
section
namespace Go.Proofs.YteecmgonbdbhdaaDoor
open Go.ChangeShapes Go.WideShapes Go.ChangeAt Go.RowKit Go.Deep

theorem list3 {α : Type} : ∀ {l : List α}, l.length = 3 → ∃ x0 x1 x2, l = [x0, x1, x2]
  | [x0, x1, x2], _ => ⟨x0, x1, x2, rfl⟩
theorem list5 {α : Type} : ∀ {l : List α}, l.length = 5 → ∃ x0 x1 x2 x3 x4, l = [x0, x1, x2, x3, x4]
  | [x0, x1, x2, x3, x4], _ => ⟨x0, x1, x2, x3, x4, rfl⟩
theorem list6 {α : Type} : ∀ {l : List α}, l.length = 6 → ∃ x0 x1 x2 x3 x4 x5, l = [x0, x1, x2, x3, x4, x5]
  | [x0, x1, x2, x3, x4, x5], _ => ⟨x0, x1, x2, x3, x4, x5, rfl⟩
theorem list8 {α : Type} : ∀ {l : List α}, l.length = 8 → ∃ x0 x1 x2 x3 x4 x5 x6 x7, l = [x0, x1, x2, x3, x4, x5, x6, x7]
  | [x0, x1, x2, x3, x4, x5, x6, x7], _ => ⟨x0, x1, x2, x3, x4, x5, x6, x7, rfl⟩
variable {H : Type} {enc : TypeId × Value → H}

/-- Whatever a type's cells read as is an element of α. -/
def OpenAs (enc : TypeId × Value → H) (w : World) (t : TypeId) (α : Type) [Rp α] (p : α → Prop) : Prop :=
  ∀ n cs x, DataW.trod enc Tryd.prog w 0 (fun _ => true) true n t cs = some x → ∃ a : α, Rp.E w noM cs a ∧ p a

theorem chain_elems {α : Type} [Rp α] {p : α → Prop} {w : World} {b off : Nat} : ∀ (n : Nat), (∀ i, i < n → ∃ cs, ∃ a : α, (Rp.E w noM cs a ∧ p a) ∧ ∀ j u, cs[j]? = some u → w.cell? ⟨b, off + (i * Rp.sz α + j), none⟩ = some u) →
    ∃ (l : List α) (xs : List Value), l.length = n ∧ (Elems (Rp.sz α) (Rp.E w noM) xs l ∧ ∀ a ∈ l, p a) ∧ ∀ j u, xs[j]? = some u → w.cell? ⟨b, off + j, none⟩ = some u
  | 0, _ => ⟨[], [], rfl, ⟨rfl, fun a h => by cases h⟩, fun j u h => by simp at h⟩
  | n + 1, h => by
    obtain ⟨l, xs, hl, ⟨he, hp⟩, hc⟩ := chain_elems n (fun i hi => h i (by omega))
    obtain ⟨cs, a, ⟨hE, hpa⟩, hcs⟩ := h n (by omega)
    refine ⟨l ++ [a], xs ++ cs, by simp [hl], ⟨he.append (Elems.one (Rp.len hE) hE), fun x hx => (List.mem_append.1 hx).elim (hp x) (fun h => by simp at h; rw [h]; exact hpa)⟩, fun j u hu => ?_⟩
    have hlen := he.length
    rw [hl] at hlen
    by_cases hj : j < xs.length
    · rw [List.getElem?_append_left hj] at hu
      exact hc j u hu
    · rw [List.getElem?_append_right (by omega)] at hu
      have := hcs _ u hu
      rw [hlen] at this
      rw [show j = n * Rp.sz α + (j - n * Rp.sz α) by omega]
      exact this

theorem spot_none {w : World} {a : Addr} {u : Value} (h : w.cell? a = some u) : a.spot = none := by
  unfold World.cell? at h
  split at h
  · split at h
    · cases h
    · rename_i hn
      cases hs : a.spot with
      | none => rfl
      | some x => rw [hs] at hn; exact absurd rfl hn
  · cases h

theorem open_sl {α : Type} [Rp α] {p : α → Prop} {w : World} {t e : TypeId} (ht : Tryd.prog.underlying t = some (.slice e)) (hsz : Tryd.prog.cellsOf e = Rp.sz α) (hel : OpenAs enc w e α p) {n : Nat} {cs : List Value} {x : DataW H × List MemPlace}
    (h : DataW.trod enc Tryd.prog w 0 (fun _ => true) true n t cs = some x) : ∃ v, ∃ l : List α, cs = [v] ∧ SlR w noM v l ∧ ∀ a ∈ l, p a := by
  rcases open_slice ht h with ⟨rfl, -⟩ | ⟨a, len, cap, m, n', D, Pl, rfl, -, hlc, hcm, hm, -, hel'⟩
  · exact ⟨_, [], rfl, ⟨none, 0, [], rfl, by simp, by simp [maxLen], rfl, fun h => absurd rfl h⟩, fun a h => by cases h⟩
  · simp only [if_true] at hm
    subst hm
    obtain ⟨b, off, spot⟩ := a
    by_cases h0 : len = 0
    · subst h0
      exact ⟨_, [], rfl, ⟨_, m, [], rfl, by simp, hcm, rfl, fun h => absurd rfl h⟩, fun a h => by cases h⟩
    · have hsp : spot = none := by
        obtain ⟨cs', hc, htr⟩ := hel' 0 (by omega)
        obtain ⟨a, hE, _⟩ := hel n' cs' _ htr
        obtain ⟨-, hl, hcell⟩ := World.cells?_some hc
        have hp := Rp.pos (α := α)
        have hle := Rp.len hE
        have := hcell 0 (by omega)
        rw [List.getElem?_eq_getElem (by omega)] at this
        simp only [Addr.add, Nat.zero_mul, if_true] at this
        exact spot_none this
      subst hsp
      have key : ∀ i, i < len → ∃ cs, ∃ a : α, (Rp.E w noM cs a ∧ p a) ∧ ∀ j u, cs[j]? = some u → w.cell? ⟨b, off + (i * Rp.sz α + j), none⟩ = some u := fun i hi => by
        obtain ⟨cs', hc, htr⟩ := hel' i (by omega)
        obtain ⟨a, hE, hpa⟩ := hel n' cs' _ htr
        refine ⟨cs', a, ⟨hE, hpa⟩, fun j u hu => ?_⟩
        obtain ⟨-, hl, hcell⟩ := World.cells?_some hc
        have hj : j < Tryd.prog.cellsOf e := by rw [← hl]; exact (List.getElem?_eq_some_iff.1 hu).1
        have := (hcell j hj).trans hu
        rw [Addr.add_lit, Addr.add_lit, hsz, Nat.add_assoc] at this
        exact this
      obtain ⟨l, xs, hl, ⟨he, hpl⟩, hc⟩ := chain_elems len key
      subst hl
      exact ⟨_, l, rfl, ⟨_, m, xs, rfl, hlc, hcm, he, fun _ => ⟨b, off, rfl, fun h => h, hc⟩⟩, hpl⟩
theorem open_arg {α : Type} [Rp α] {p : α → Prop} {w : World} {t e : TypeId} (ht : Tryd.prog.underlying t = some (.slice e)) (hsz : Tryd.prog.cellsOf e = Rp.sz α) (hel : OpenAs enc w e α p) {v : Value} (hv : v.cells.toList = [v]) {d : DataW H} {ps : List MemPlace}
    (h : DataW.Trod enc Tryd.prog w 0 (fun _ => true) true t v d ps) : ∃ l : List α, SlR w noM v l ∧ ∀ a ∈ l, p a := by
  obtain ⟨n, hn⟩ := h
  obtain ⟨v', l, e, hs, hp⟩ := open_sl ht hsz hel hn
  rw [hv] at e
  injection e with e
  subst e
  exact ⟨l, hs, hp⟩
theorem int_max {k : Int} (h : (Lit.int .i64 k).wf = true) : k ≤ 9223372036854775807 := by
  have h2 : IntKind.i64.min ≤ k ∧ k ≤ IntKind.i64.max := by
    simp only [Lit.wf, Bool.and_eq_true, decide_eq_true_eq] at h
    exact h
  have e2 : IntKind.i64.max = 9223372036854775807 := by decide
  omega
theorem open_asInt {w : World} {t : TypeId} (ht : Tryd.prog.underlying t = some (.int .i64)) : OpenAs enc w t Int (fun k => k ≤ 9223372036854775807) := fun n cs x h => by
  obtain ⟨k, rfl, -, hw⟩ := DataW.trod_int ht h
  exact ⟨k, rfl, int_max hw⟩
theorem int_min {k : Int} (h : (Lit.int .i64 k).wf = true) : -9223372036854775808 ≤ k := by
  have h2 : IntKind.i64.min ≤ k ∧ k ≤ IntKind.i64.max := by
    simp only [Lit.wf, Bool.and_eq_true, decide_eq_true_eq] at h
    exact h
  have e2 : IntKind.i64.min = -9223372036854775808 := by decide
  omega
theorem u8_wf {k : Int} (h : (Lit.int .u8 k).wf = true) : ∃ x : UInt8, k = x.toNat := by
  have h2 : 0 ≤ k ∧ k < 256 := by
    simp only [Lit.wf, Bool.and_eq_true, decide_eq_true_eq] at h
    have e1 : IntKind.u8.min = 0 := by decide
    have e2 : IntKind.u8.max = 255 := by decide
    omega
  obtain ⟨j, rfl⟩ := Int.eq_ofNat_of_zero_le h2.1
  exact ⟨UInt8.ofNat j, by rw [UInt8.toNat_ofNat_of_lt' (show j < 256 by omega)]⟩
theorem open_asU8 {w : World} {t : TypeId} (ht : Tryd.prog.underlying t = some (.int .u8)) : OpenAs enc w t UInt8 (fun _ => True) := fun n cs x h => by
  obtain ⟨k, rfl, -, hw⟩ := DataW.trod_int ht h
  obtain ⟨y, rfl⟩ := u8_wf hw
  exact ⟨y, rfl, trivial⟩
theorem cellsI : Tryd.prog.cellsOf 3 = 1 := by kernel_rfl
theorem cellsU : Tryd.prog.cellsOf 5 = 1 := by kernel_rfl
theorem cellsB : Tryd.prog.cellsOf 28 = 1 := by kernel_rfl
theorem open_bytes {w : World} {n : Nat} {cs : List Value} {x : DataW H × List MemPlace} (h : DataW.trod enc Tryd.prog w 0 (fun _ => true) true n 28 cs = some x) : ∃ v, ∃ l : List UInt8, cs = [v] ∧ SlR w noM v l := by
  obtain ⟨v, l, e, hs, -⟩ := open_sl Tryd.underlying28 cellsU (open_asU8 Tryd.underlying5) h
  exact ⟨v, l, e, hs⟩
theorem cells_img : Tryd.prog.cellsOf 32 = 3 := by kernel_rfl
theorem open_img {w : World} : OpenAs enc w 32 Img (fun _ => True) := fun n cs x h => by
  obtain ⟨xs, n', _, rfl, hl, hlen, hf⟩ := DataW.trod_struct Tryd.underlying32 h
  have hlc : cs.length = 3 := hl.trans cells_img
  obtain ⟨c0, c1, c2, rfl⟩ : ∃ c0 c1 c2, cs = [c0, c1, c2] := list3 hlc
  obtain ⟨y0, y1, y2, rfl⟩ : ∃ y0 y1 y2, xs = [y0, y1, y2] := list3 hlen
  have h0 : DataW.trod enc Tryd.prog w 0 (fun _ => true) true n' 3 (([c0, c1, c2].drop 0).take (Tryd.prog.cellsOf 3)) = some y0 := hf 0 _ rfl
  rw [cellsI] at h0
  obtain ⟨k0, e0, -, -⟩ := DataW.trod_int Tryd.underlying3 h0
  have h1 : DataW.trod enc Tryd.prog w 0 (fun _ => true) true n' 3 (([c0, c1, c2].drop 1).take (Tryd.prog.cellsOf 3)) = some y1 := hf 1 _ rfl
  rw [cellsI] at h1
  obtain ⟨k1, e1, -, -⟩ := DataW.trod_int Tryd.underlying3 h1
  have h2 : DataW.trod enc Tryd.prog w 0 (fun _ => true) true n' 28 (([c0, c1, c2].drop 2).take (Tryd.prog.cellsOf 28)) = some y2 := hf 2 _ rfl
  rw [cellsB] at h2
  obtain ⟨v2, l2, e2, s2⟩ := open_bytes h2
  simp at e0 e1 e2
  subst e0
  subst e1
  subst e2
  exact ⟨⟨k0, k1, l2⟩, ⟨_, rfl, s2⟩, trivial⟩
theorem cells_rec : Tryd.prog.cellsOf 34 = 8 := by kernel_rfl
theorem open_rec {w : World} : OpenAs enc w 34 Rc (fun _ => True) := fun n cs x h => by
  obtain ⟨xs, n', _, rfl, hl, hlen, hf⟩ := DataW.trod_struct Tryd.underlying34 h
  have hlc : cs.length = 8 := hl.trans cells_rec
  obtain ⟨c0, c1, c2, c3, c4, c5, c6, c7, rfl⟩ : ∃ c0 c1 c2 c3 c4 c5 c6 c7, cs = [c0, c1, c2, c3, c4, c5, c6, c7] := list8 hlc
  obtain ⟨y0, y1, y2, y3, y4, y5, rfl⟩ : ∃ y0 y1 y2 y3 y4 y5, xs = [y0, y1, y2, y3, y4, y5] := list6 hlen
  have h0 : DataW.trod enc Tryd.prog w 0 (fun _ => true) true n' 3 (([c0, c1, c2, c3, c4, c5, c6, c7].drop 0).take (Tryd.prog.cellsOf 3)) = some y0 := hf 0 _ rfl
  rw [cellsI] at h0
  obtain ⟨k0, e0, -, -⟩ := DataW.trod_int Tryd.underlying3 h0
  have h1 : DataW.trod enc Tryd.prog w 0 (fun _ => true) true n' 3 (([c0, c1, c2, c3, c4, c5, c6, c7].drop 1).take (Tryd.prog.cellsOf 3)) = some y1 := hf 1 _ rfl
  rw [cellsI] at h1
  obtain ⟨k1, e1, -, -⟩ := DataW.trod_int Tryd.underlying3 h1
  have h2 : DataW.trod enc Tryd.prog w 0 (fun _ => true) true n' 3 (([c0, c1, c2, c3, c4, c5, c6, c7].drop 2).take (Tryd.prog.cellsOf 3)) = some y2 := hf 2 _ rfl
  rw [cellsI] at h2
  obtain ⟨k2, e2, -, -⟩ := DataW.trod_int Tryd.underlying3 h2
  have h3 : DataW.trod enc Tryd.prog w 0 (fun _ => true) true n' 3 (([c0, c1, c2, c3, c4, c5, c6, c7].drop 3).take (Tryd.prog.cellsOf 3)) = some y3 := hf 3 _ rfl
  rw [cellsI] at h3
  obtain ⟨k3, e3, -, -⟩ := DataW.trod_int Tryd.underlying3 h3
  have h4 : DataW.trod enc Tryd.prog w 0 (fun _ => true) true n' 3 (([c0, c1, c2, c3, c4, c5, c6, c7].drop 4).take (Tryd.prog.cellsOf 3)) = some y4 := hf 4 _ rfl
  rw [cellsI] at h4
  obtain ⟨k4, e4, -, -⟩ := DataW.trod_int Tryd.underlying3 h4
  have h5 : DataW.trod enc Tryd.prog w 0 (fun _ => true) true n' 32 (([c0, c1, c2, c3, c4, c5, c6, c7].drop 5).take (Tryd.prog.cellsOf 32)) = some y5 := hf 5 _ rfl
  rw [cells_img] at h5
  obtain ⟨m5, e5, -⟩ := open_img n' _ _ h5
  obtain ⟨r5, e5, s5⟩ := e5
  simp at e0 e1 e2 e3 e4 e5
  subst e0
  subst e1
  subst e2
  subst e3
  subst e4
  obtain ⟨e5a, e5b, e5c⟩ := e5
  subst e5a e5b e5c
  exact ⟨⟨k0, k1, k2, k3, k4, m5⟩, ⟨_, rfl, s5⟩, trivial⟩
instance : Rp Geo where
  sz := 5
  agg := true
  pos := by omega
  E := fun _ _ cs g => cs = [.int .i64 g.z, .int .i64 g.d, .int .i64 g.sp, .int .i64 g.sl, .int .i64 g.an]
  len := fun h => by rw [h]; rfl
  one := fun h u hu => by rw [h] at hu; simp at hu; rcases hu with rfl | rfl | rfl | rfl | rfl <;> rfl
  mono := fun _ h => h
theorem cells_geo : Tryd.prog.cellsOf 23 = 5 := by kernel_rfl
theorem open_geo {w : World} : OpenAs enc w 23 Geo (fun _ => True) := fun n cs x h => by
  obtain ⟨xs, n', _, rfl, hl, hlen, hf⟩ := DataW.trod_struct Tryd.underlying23 h
  have hlc : cs.length = 5 := hl.trans cells_geo
  obtain ⟨c0, c1, c2, c3, c4, rfl⟩ : ∃ c0 c1 c2 c3 c4, cs = [c0, c1, c2, c3, c4] := list5 hlc
  obtain ⟨y0, y1, y2, y3, y4, rfl⟩ : ∃ y0 y1 y2 y3 y4, xs = [y0, y1, y2, y3, y4] := list5 hlen
  have h0 : DataW.trod enc Tryd.prog w 0 (fun _ => true) true n' 3 (([c0, c1, c2, c3, c4].drop 0).take (Tryd.prog.cellsOf 3)) = some y0 := hf 0 _ rfl
  rw [cellsI] at h0
  obtain ⟨k0, e0, -, -⟩ := DataW.trod_int Tryd.underlying3 h0
  have h1 : DataW.trod enc Tryd.prog w 0 (fun _ => true) true n' 3 (([c0, c1, c2, c3, c4].drop 1).take (Tryd.prog.cellsOf 3)) = some y1 := hf 1 _ rfl
  rw [cellsI] at h1
  obtain ⟨k1, e1, -, -⟩ := DataW.trod_int Tryd.underlying3 h1
  have h2 : DataW.trod enc Tryd.prog w 0 (fun _ => true) true n' 3 (([c0, c1, c2, c3, c4].drop 2).take (Tryd.prog.cellsOf 3)) = some y2 := hf 2 _ rfl
  rw [cellsI] at h2
  obtain ⟨k2, e2, -, -⟩ := DataW.trod_int Tryd.underlying3 h2
  have h3 : DataW.trod enc Tryd.prog w 0 (fun _ => true) true n' 3 (([c0, c1, c2, c3, c4].drop 3).take (Tryd.prog.cellsOf 3)) = some y3 := hf 3 _ rfl
  rw [cellsI] at h3
  obtain ⟨k3, e3, -, -⟩ := DataW.trod_int Tryd.underlying3 h3
  have h4 : DataW.trod enc Tryd.prog w 0 (fun _ => true) true n' 3 (([c0, c1, c2, c3, c4].drop 4).take (Tryd.prog.cellsOf 3)) = some y4 := hf 4 _ rfl
  rw [cellsI] at h4
  obtain ⟨k4, e4, -, -⟩ := DataW.trod_int Tryd.underlying3 h4
  simp at e0 e1 e2 e3 e4
  subst e0
  subst e1
  subst e2
  subst e3
  subst e4
  exact ⟨⟨k0, k1, k2, k3, k4⟩, rfl, trivial⟩
theorem open_geoA {w : World} {cs : Array Value} {d : DataW H} {ps : List MemPlace} (h : DataW.Trod enc Tryd.prog w 0 (fun _ => true) true 23 (.agg cs) d ps) : ∃ g : Geo, .agg cs = gv g := by
  obtain ⟨n, hn⟩ := h
  obtain ⟨x, hx, -⟩ := open_geo n _ _ hn
  have hx : cs.toList = [.int .i64 x.z, .int .i64 x.d, .int .i64 x.sp, .int .i64 x.sl, .int .i64 x.an] := hx
  exact ⟨x, by unfold gv; rw [← hx]⟩
theorem open_recA {w : World} {cs : Array Value} {d : DataW H} {ps : List MemPlace} (h : DataW.Trod enc Tryd.prog w 0 (fun _ => true) true 34 (.agg cs) d ps) : ∃ (r : Rc) (v : Value), .agg cs = Value.agg #[.int .i64 r.kind, .int .i64 r.seq, .int .i64 r.epoch, .int .i64 r.at_, .int .i64 r.of_, .int .i64 r.img.zone, .int .i64 r.img.what, v] ∧ SlR w noM v r.img.bytes := by
  obtain ⟨n, hn⟩ := h
  obtain ⟨x, ⟨v, hx, hs⟩, -⟩ := open_rec n _ _ hn
  have hx : cs.toList = _ := hx
  exact ⟨x, v, by rw [← hx], hs⟩
theorem open_imgA {w : World} {cs : Array Value} {d : DataW H} {ps : List MemPlace} (h : DataW.Trod enc Tryd.prog w 0 (fun _ => true) true 32 (.agg cs) d ps) : ∃ (r : Img) (v : Value), .agg cs = Value.agg #[.int .i64 r.zone, .int .i64 r.what, v] ∧ SlR w noM v r.bytes := by
  obtain ⟨n, hn⟩ := h
  obtain ⟨x, ⟨v, hx, hs⟩, -⟩ := open_img n _ _ hn
  have hx : cs.toList = _ := hx
  exact ⟨x, v, by rw [← hx], hs⟩
end Go.Proofs.YteecmgonbdbhdaaDoor
end

/-
A law's last step: true is returned, nothing that was there has changed.
-/
section
namespace Go.Proofs.YteecmgonbdbhdaaDoor
open Go.ChangeShapes Go.WideShapes Go.ChangeAt Go.RowKit

theorem own_none : ownKnob Tryd.prog.godebug = none := by kernel_rfl
theorem laidOut : laidOutB Tryd.prog = true := by kernel_rfl

section
variable {H : Type} {enc : TypeId × Value → H}
set_option maxRecDepth 100000 in
theorem law_post {f : Func} {s : ChangeSpec} {apart fresh handsOn again : Bool} {W W' : World} {args : Array Value} {ds : List (DataW H)} {before : List MemPlace}
    (hW : DataW.Whole enc Tryd.prog f.params.toList s.vars apart W args.toList ds [] before) (hv : s.vars = []) (hvs : (s.fn H (ds ++ [])).vars = [])
    (hr : f.resultTypes = #[4]) (hfr : (s.fn H (ds ++ [])).results = [.lit (.bool true)]) (hfa : (s.fn H (ds ++ [])).args = ds)
    (hrow : ∀ t ∈ f.params.toList, Tryd.prog.readableRec t = true ∧ t < Tryd.prog.types.size) (hb : Below W.heap.size W W') :
    s.post enc Tryd.prog f apart fresh handsOn again W args (.bool true) W' := by
  have hlt : ∀ p ∈ before, p.block < W.heap.size := fun p hp => hW.lt p hp
  obtain ⟨p, q, hA, hV, hpq, hz, hn⟩ := id hW
  rw [hv] at hV
  obtain ⟨-, rfl⟩ := trodVars_none hV
  rw [List.append_nil] at hpq
  subst hpq
  have stay : ∀ sp : Nat → Bool, (∀ x ∈ before, sp x.block = true) → DataW.TrodAll enc Tryd.prog W' 0 sp true f.params.toList args.toList ds before := by
    intro sp hsp
    have go : ∀ (ts : List TypeId) (vs : List Value) (es : List (DataW H)) (ps : List MemPlace), (∀ t ∈ ts, Tryd.prog.readableRec t = true ∧ t < Tryd.prog.types.size) → (∀ x ∈ ps, x ∈ before) →
        DataW.TrodAll enc Tryd.prog W 0 (fun _ => true) true ts vs es ps → DataW.TrodAll enc Tryd.prog W' 0 sp true ts vs es ps := by
      intro ts
      induction ts with
      | nil =>
        intro vs es ps _ _ h
        cases vs <;> cases es <;> exact h
      | cons t ts ih =>
        intro vs es ps ht hin h
        cases vs with
        | nil => cases es <;> exact h.elim
        | cons v vs =>
          cases es with
          | nil => exact h.elim
          | cons e es =>
            obtain ⟨p1, p2, h1, h2, rfl⟩ := h
            exact ⟨p1, p2, WideElems.Trod_stays laidOut (ht t (by simp)).1 (ht t (by simp)).2 h1 (fun x hx => hb.same (hlt x (hin x (by simp [hx])))) (fun x hx => hsp x (hin x (by simp [hx]))),
              ih vs es p2 (fun t' ht' => ht t' (by simp [ht'])) (fun x hx => hin x (by simp [hx])) h2, rfl⟩
    exact go _ _ _ _ hrow (fun x hx => hx) hA
  have hres : ∀ (b : Nat) (sp : Nat → Bool) (hd : Bool), DataW.TrodAll enc Tryd.prog W' b sp hd f.resultTypes.toList ((Value.bool true).resultList f.resultTypes.size) (s.fn H (ds ++ [])).results [] := by
    intro b sp hd
    rw [hr, hfr]
    exact trodAll_mk1 ⟨1, by simp [DataW.trod, Value.cells, Tryd.underlying4]⟩
  have hold : ∀ p ∈ before, (fun b => decide (b < W.heap.size)) p.block = true := fun p hp => by simpa using hlt p hp
  have hvars : ∀ sp : Nat → Bool, DataW.TrodVars enc Tryd.prog W' sp s.vars (s.fn H (ds ++ [])).vars [] := by
    intro sp; rw [hv, hvs]; exact rfl
  refine ⟨ds, [], before, [], before, [], hW, hres _ _ _, by rw [hfa]; exact stay _ hold, hvars _, World.keptBut_mono (fun p hp => ⟨hp, ?_⟩) (hb.frame (· ∈ before)), fun _ => ?_⟩
  · exact Or.inr (by simpa using hp)
  · refine ⟨ok_one hr rfl (by simp [Value.okWide, Tryd.underlying4, Cell.okWide, Cell.ok]), _, _, ([] ++ before) ++ [], ⟨[] ++ before, [], trodAll_append (stay _ (fun _ _ => rfl)) (hres _ _ _), hvars _, rfl, ?_, ?_⟩, ?_⟩
    · intro b off hp
      have hin : MemPlace.cell b off ∈ before := by simpa using hp
      rw [hb.frozen (hlt _ hin)]
      exact hz b off hin
    · intro ha
      have := hn ha
      simpa using this
    · intro p hp _
      simpa using hp
end
end Go.Proofs.YteecmgonbdbhdaaDoor
end

/-
From rows that callers hand over to abstract values.
-/
section
namespace Go.Proofs.YteecmgonbdbhdaaDoor.A
open Go.RowKit

theorem rdAt_of {c : Ctx} {b : Nat} : ∀ {cs : List AV} {xs : List Value} {off : Nat}, RdL cs c xs → (∀ j u, xs[j]? = some u → c.w.cell? ⟨b, off + j, none⟩ = some u ∧ u.oneCell' = true) → RdAt cs c b off
  | [], _, _, _, _ => by simp [RdAt]
  | x :: l, xs, off, h, hc => by
    simp only [RdL] at h
    obtain ⟨y, ys, rfl, h1, h2⟩ := h
    simp only [RdAt]
    refine ⟨⟨y, (hc 0 y rfl).1, (hc 0 y rfl).2, h1⟩, rdAt_of h2 fun j u hu => ?_⟩
    have := hc (j + 1) u hu
    rwa [show off + (j + 1) = off + 1 + j by omega] at this
theorem rdL_len {c : Ctx} : ∀ {cs : List AV} {xs : List Value}, RdL cs c xs → cs.length = xs.length
  | [], _, h => by simp only [RdL] at h; subst h; rfl
  | x :: l, xs, h => by
    simp only [RdL] at h
    obtain ⟨y, ys, rfl, _, h2⟩ := h
    simp [rdL_len h2]
theorem ofSl {α : Type} [Rp α] (f : α → List AV) (d : α) (sz : Nat) (hsz : Rp.sz α = sz) (hE : ∀ (c : Ctx) cs x, Rp.E c.w c.M cs x → RdL (f x) c cs) {c : Ctx} {u : Value} {l : List α} (h : SlR c.w c.M u l) : Rd (.sl sz l.length fun i => f (l.getD i d)) c u := by
  subst hsz
  obtain ⟨a, k, xs, rfl, h1, h2, h3, h4⟩ := h
  simp only [Rd]
  refine ⟨a, k, rfl, h1, h2, ?_⟩
  by_cases hne : l = []
  · exact .inl (by rw [hne]; rfl)
  · obtain ⟨bl, off, rfl, hm, hc⟩ := h4 hne
    have one : ∀ i, i < l.length → ∃ cs, cs.length = Rp.sz α ∧ Rp.E c.w c.M cs (l.getD i d) ∧ ∀ j u, cs[j]? = some u → c.w.cell? ⟨bl, off + i * Rp.sz α + j, none⟩ = some u ∧ u.oneCell' = true := by
      intro i hi
      obtain ⟨cs, e1, e2, e3⟩ := h3.get (List.getElem?_eq_getElem hi)
      rw [show l.getD i d = l[i] by rw [List.getD_eq_getElem?_getD, List.getElem?_eq_getElem hi]; rfl]
      refine ⟨cs, e1, e2, fun j u hu => ?_⟩
      have hj : j < Rp.sz α := by rw [← e1]; exact (List.getElem?_eq_some_iff.1 hu).1
      refine ⟨?_, Rp.one e2 u (List.mem_of_getElem? hu)⟩
      have := hc (i * Rp.sz α + j) u ((e3 j hj).trans hu)
      rwa [← Nat.add_assoc] at this
    have hlt : bl < c.w.heap.size := by
      obtain ⟨cs, q1, _, q3⟩ := one 0 (List.length_pos_iff.2 hne)
      have h0 : 0 < cs.length := by rw [q1]; exact Rp.pos
      exact World.block_lt_of_cell? _ _ (q3 0 _ (List.getElem?_eq_getElem h0)).1
    refine .inr ⟨bl, off, rfl, hm, hlt, fun i hi => ?_⟩
    obtain ⟨cs, q1, q2, q3⟩ := one i hi
    have := hE c.closed cs _ q2
    exact ⟨(rdL_len this).trans q1, rdAt_of this q3⟩
theorem ofImgs {c : Ctx} {u : Value} {l : List Img} (h : SlR c.w c.M u l) : Rd (imgsA l) c u :=
  ofSl imgC ⟨0, 0, []⟩ 3 rfl (fun c cs x ⟨r, e, hr⟩ => by
    subst e
    simp only [imgC, RdL, Rd]
    exact ⟨_, _, rfl, rfl, _, _, rfl, rfl, _, _, rfl, ofBytes hr, rfl⟩) h
theorem ofRecs {c : Ctx} {u : Value} {l : List Rc} (h : SlR c.w c.M u l) : Rd (recsA l) c u :=
  ofSl rcC ⟨0, 0, 0, 0, 0, ⟨0, 0, []⟩⟩ 8 rfl (fun c cs x ⟨r, e, hr⟩ => by
    subst e
    simp only [rcC, RdL, Rd]
    exact ⟨_, _, rfl, rfl, _, _, rfl, rfl, _, _, rfl, rfl, _, _, rfl, rfl, _, _, rfl, rfl, _, _, rfl, rfl, _, _, rfl, rfl, _, _, rfl, ofBytes hr, rfl⟩) h
theorem ofInts {c : Ctx} {u : Value} {l : List Int} (h : SlR c.w c.M u l) : Rd (iA l) c u :=
  ofSl (fun n => [.v (.int .i64 n)]) 0 1 rfl (fun c cs x e => by
    have e : cs = [.int .i64 x] := e
    subst e
    simp only [RdL, Rd]
    exact ⟨_, _, rfl, rfl, rfl⟩) h
theorem of_geo {c : Ctx} (g : Geo) : Rd (.ag (geoC g)) c (gv g) := by
  simp only [geoC, Rd, RdL]
  exact ⟨_, rfl, _, _, rfl, rfl, _, _, rfl, rfl, _, _, rfl, rfl, _, _, rfl, rfl, _, _, rfl, rfl, rfl⟩
/-- Where a call begins: nothing is one's own. -/
def ctx0 (w : World) : Ctx := { w := w, M := noM, base := w.heap.size, dom := 0, len := fun _ => 0, rho := fun _ => undef }
theorem Fn.any {P : Program} {f : FuncId} {args : List AV} {a : AV} (h : Fn P f args fun r => r = a) (w : World) (hg : globOk w) (us : List Value) (hr : RdL args (ctx0 w) us) :
    Calls P f us.toArray w fun e w' => ∃ v, e = .returned v ∧ Below w.heap.size w w' ∧ Rd a { ctx0 w with w := w' } v := by
  refine (h.calls (ctx0 w) us rfl (fun _ h => h.elim) hg hr).mono ?_
  rintro e w' ⟨v, r, rfl, rfl, h1, h2⟩
  exact ⟨v, rfl, h1, h2⟩
theorem Fn.anyV {P : Program} {f : FuncId} {args : List AV} {a : Value} (h : Fn P f args fun r => r = .v a) (w : World) (hg : globOk w) (us : List Value) (hr : RdL args (ctx0 w) us) :
    Calls P f us.toArray w fun e w' => e = .returned a ∧ Below w.heap.size w w' := by
  refine (h.any w hg us hr).mono ?_
  rintro e w' ⟨v, rfl, h1, h2⟩
  simp only [Rd] at h2
  exact ⟨by rw [h2], h1⟩
end Go.Proofs.YteecmgonbdbhdaaDoor.A
end

/-
Arguments opened: what a handed value reads as, in the abstract, by its type's shape.
-/
section
namespace Go.Proofs.YteecmgonbdbhdaaDoor.A
open Go.RowKit Go.ChangeShapes Go.WideShapes Go.ChangeAt Go.Deep
open Go.ChangeMaps (open_string)

section
variable {H : Type} {enc : TypeId × Value → H} {w : World}
/-- Whatever a type's cells read as is of the form G. -/
def OpenE (enc : TypeId × Value → H) (w : World) (t : TypeId) (sz : Nat) (G : List AV → Prop) : Prop :=
  Tryd.prog.cellsOf t = sz ∧ ∀ n cs x, DataW.trod enc Tryd.prog w 0 (fun _ => true) true n t cs = some x → ∃ L, G L ∧ RdL L (ctx0 w) cs ∧ (∀ u ∈ cs, u.oneCell' = true) ∧ L.length = sz
theorem OpenE.mono {t sz : Nat} {G G' : List AV → Prop} (h : OpenE enc w t sz G) (hg : ∀ L, G L → G' L) : OpenE enc w t sz G' :=
  ⟨h.1, fun n cs x hx => let ⟨L, h1, h2⟩ := h.2 n cs x hx; ⟨L, hg L h1, h2⟩⟩
def gInt (L : List AV) : Prop := ∃ k : Int, L = [.v (.int .i64 k)] ∧ -9223372036854775808 ≤ k ∧ k ≤ 9223372036854775807
def gU8 (L : List AV) : Prop := ∃ k : UInt8, L = [.v (.int .u8 k.toNat)]
def gBool (L : List AV) : Prop := ∃ k : Bool, L = [.v (.bool k)]
def gStr (L : List AV) : Prop := ∃ k : ByteArray, L = [.v (.string k)]
theorem oe_int {t : Nat} (ht : Tryd.prog.underlying t = some (.int .i64)) (hc : Tryd.prog.cellsOf t = 1) : OpenE enc w t 1 gInt := ⟨hc, fun n cs x h => by
  obtain ⟨k, rfl, -, hw⟩ := DataW.trod_int ht h
  exact ⟨_, ⟨k, rfl, int_min hw, int_max hw⟩, by simp only [RdL, Rd]; exact ⟨_, _, rfl, rfl, rfl⟩, by simp [Value.oneCell'], rfl⟩⟩
theorem oe_u8 {t : Nat} (ht : Tryd.prog.underlying t = some (.int .u8)) (hc : Tryd.prog.cellsOf t = 1) : OpenE enc w t 1 gU8 := ⟨hc, fun n cs x h => by
  obtain ⟨k, rfl, -, hw⟩ := DataW.trod_int ht h
  obtain ⟨y, rfl⟩ := u8_wf hw
  exact ⟨_, ⟨y, rfl⟩, by simp only [RdL, Rd]; exact ⟨_, _, rfl, rfl, rfl⟩, by simp [Value.oneCell'], rfl⟩⟩
theorem oe_bool {t : Nat} (ht : Tryd.prog.underlying t = some .bool) (hc : Tryd.prog.cellsOf t = 1) : OpenE enc w t 1 gBool := ⟨hc, fun n cs x h => by
  obtain ⟨k, rfl, -⟩ := DataW.trod_bool ht h
  exact ⟨_, ⟨k, rfl⟩, by simp only [RdL, Rd]; exact ⟨_, _, rfl, rfl, rfl⟩, by simp [Value.oneCell'], rfl⟩⟩
theorem oe_str {t : Nat} (ht : Tryd.prog.underlying t = some .string) (hc : Tryd.prog.cellsOf t = 1) : OpenE enc w t 1 gStr := ⟨hc, fun n cs x h => by
  obtain ⟨k, rfl, -⟩ := DataW.trod_string ht h
  exact ⟨_, ⟨k, rfl⟩, by simp only [RdL, Rd]; exact ⟨_, _, rfl, rfl, rfl⟩, by simp [Value.oneCell'], rfl⟩⟩
/-- A slice whose elements are of a form. -/
def gSl {α : Type} (sz : Nat) (f : α → List AV) (d : α) (L : List AV) : Prop := ∃ l : List α, L = [.sl sz l.length fun i => f (l.getD i d)]
theorem oe_sl {α : Type} {t e sz : Nat} {f : α → List AV} {d : α} (ht : Tryd.prog.underlying t = some (.slice e)) (hc : Tryd.prog.cellsOf t = 1) (hsz : 0 < sz) (he : OpenE enc w e sz fun L => ∃ a, L = f a) : OpenE enc w t 1 (gSl sz f d) := ⟨hc, fun n cs x h => by
  have hnil : ∀ (u : Value), Rd (.v (.slice none 0 0)) (ctx0 w) u → Rd (.sl sz ([] : List α).length fun i => f (([] : List α).getD i d)) (ctx0 w) u := fun u h => by
    simp only [Rd] at h ⊢
    exact ⟨none, 0, h, by simp, by simp [maxLen], .inl rfl⟩
  rcases open_slice ht h with ⟨rfl, -⟩ | ⟨a, len, cap, m, n', D, Pl, rfl, -, hlc, hcm, hm, -, hel'⟩
  · exact ⟨_, ⟨[], rfl⟩, by simp only [RdL]; exact ⟨_, _, rfl, hnil _ (by simp [Rd]), rfl⟩, by simp [Value.oneCell'], rfl⟩
  · simp only [if_true] at hm
    subst hm
    obtain ⟨b, off, spot⟩ := a
    by_cases h0 : len = 0
    · subst h0
      refine ⟨_, ⟨[], rfl⟩, ?_, by simp [Value.oneCell'], rfl⟩
      simp only [RdL, Rd]
      exact ⟨_, _, rfl, ⟨_, m, rfl, by simp, hcm, .inl rfl⟩, rfl⟩
    · have hsp : spot = none := by
        obtain ⟨cs', hc', htr⟩ := hel' 0 (by omega)
        obtain ⟨L, ⟨a, rfl⟩, hR, h1, hl⟩ := he.2 n' cs' _ htr
        obtain ⟨-, hl2, hcell⟩ := World.cells?_some hc'
        have hlen := hR.length
        have := hcell 0 (by rw [he.1]; omega)
        rw [List.getElem?_eq_getElem (by omega)] at this
        simp only [Addr.add, Nat.zero_mul, if_true] at this
        exact spot_none this
      subst hsp
      have key : ∀ i, i < len → ∃ cs, ∃ a : α, RdL (f a) (ctx0 w) cs ∧ (∀ u ∈ cs, u.oneCell' = true) ∧ (f a).length = sz ∧ ∀ j u, cs[j]? = some u → w.cell? ⟨b, off + (i * sz + j), none⟩ = some u := fun i hi => by
        obtain ⟨cs', hc', htr⟩ := hel' i (by omega)
        obtain ⟨L, ⟨a, rfl⟩, hR, h1, hl⟩ := he.2 n' cs' _ htr
        refine ⟨cs', a, hR, h1, hl, fun j u hu => ?_⟩
        obtain ⟨-, hl2, hcell⟩ := World.cells?_some hc'
        have hj : j < Tryd.prog.cellsOf e := by rw [← hl2]; exact (List.getElem?_eq_some_iff.1 hu).1
        have h3 := (hcell j hj).trans hu
        rw [he.1, Addr.add_lit, Addr.add_lit, Nat.add_assoc] at h3
        exact h3
      have hex : ∀ k, k ≤ len → ∃ l : List α, l.length = k ∧ ∀ i, i < k → (f (l.getD i d)).length = sz ∧ RdAt (f (l.getD i d)) (ctx0 w) b (off + i * sz) := by
        intro k
        induction k with
        | zero => exact fun _ => ⟨[], rfl, fun i hi => absurd hi (Nat.not_lt_zero i)⟩
        | succ k ih =>
          intro hk
          obtain ⟨l, hl, hr⟩ := ih (by omega)
          obtain ⟨cs', a, hR, h1, hla, h2⟩ := key k (by omega)
          refine ⟨l ++ [a], by simp [hl], fun i hi => ?_⟩
          by_cases hik : i < k
          · have e : (l ++ [a]).getD i d = l.getD i d := by rw [List.getD_eq_getElem?_getD, List.getD_eq_getElem?_getD, List.getElem?_append_left (by omega)]
            rw [e]
            exact hr i hik
          · have e2 : i = k := by omega
            subst e2
            have e : (l ++ [a]).getD i d = a := by rw [List.getD_eq_getElem?_getD, List.getElem?_append_right (by omega), hl]; simp
            rw [e]
            refine ⟨hla, RdAt.of hR h1 fun j u hu => ?_⟩
            have := h2 j u hu
            rw [Nat.add_assoc]
            exact this
      obtain ⟨l, hl, hr⟩ := hex len (Nat.le_refl _)
      refine ⟨_, ⟨l, rfl⟩, ?_, by simp [Value.oneCell'], rfl⟩
      simp only [RdL, Rd]
      refine ⟨_, _, rfl, ⟨_, m, by rw [hl], by omega, hcm, .inr ⟨b, off, rfl, fun h => h, ?_, fun i hi => hr i (by omega)⟩⟩, rfl⟩
      obtain ⟨cs', a, hR, h1, hla, h2⟩ := key 0 (by omega)
      have hlen := hR.length
      have h3 := h2 0 cs'[0] (List.getElem?_eq_getElem (by omega))
      exact World.block_lt_of_cell? _ _ h3⟩
/-- Forms one behind the other. -/
def catG : List (List AV → Prop) → List AV → Prop
  | [], L => L = []
  | G :: r, L => ∃ A B, L = A ++ B ∧ G A ∧ catG r B
/-- A structure's fields, one behind the other. -/
structure FieldE (enc : TypeId × Value → H) (w : World) where
  t : TypeId
  sz : Nat
  G : List AV → Prop
  ok : OpenE enc w t sz G
theorem oe_fields {n : Nat} {cs : List Value} : ∀ (fs : List (FieldE enc w)) (off : Nat), off + (fs.map (·.sz)).sum = cs.length →
    (∀ i f, fs[i]? = some f → ∃ x, DataW.trod enc Tryd.prog w 0 (fun _ => true) true n f.t ((cs.drop (off + ((fs.take i).map (·.sz)).sum)).take f.sz) = some x) →
    ∃ L, catG (fs.map (·.G)) L ∧ RdL L (ctx0 w) (cs.drop off) ∧ (∀ u ∈ cs.drop off, u.oneCell' = true) ∧ L.length = (fs.map (·.sz)).sum
  | [], off, hl, _ => ⟨[], rfl, by simp only [RdL]; exact List.drop_eq_nil_of_le (by simp at hl; omega), by rw [List.drop_eq_nil_of_le (by simp at hl; omega)]; simp, rfl⟩
  | f :: r, off, hl, h => by
    simp only [List.map_cons, List.sum_cons] at hl ⊢
    obtain ⟨x, hx⟩ := h 0 f rfl
    simp only [List.take_zero, List.map_nil, List.sum_nil, Nat.add_zero] at hx
    obtain ⟨A, hA, hRA, h1A, hlA⟩ := f.ok.2 _ _ _ hx
    obtain ⟨B, hB, hRB, h1B, hlB⟩ := oe_fields (cs := cs) r (off + f.sz) (by omega) (fun i g hg => by
      obtain ⟨y, hy⟩ := h (i + 1) g (by simpa using hg)
      refine ⟨y, ?_⟩
      simp only [List.take_succ_cons, List.map_cons, List.sum_cons] at hy
      rw [Nat.add_assoc]
      exact hy)
    have e : cs.drop off = (cs.drop off).take f.sz ++ cs.drop (off + f.sz) := by rw [← List.drop_drop, List.take_append_drop]
    refine ⟨A ++ B, ⟨A, B, rfl, hA, hB⟩, ?_, ?_, by simp [hlA, hlB]⟩
    · rw [e]; exact hRA.append hRB
    · intro u hu
      rw [e, List.mem_append] at hu
      exact hu.elim (h1A u) (h1B u)
theorem oe_struct {t : Nat} (fs : List (FieldE enc w)) {F : Array Field} (ht : Tryd.prog.underlying t = some (.struct F)) (hc : Tryd.prog.cellsOf t = (fs.map (·.sz)).sum)
    (hF : F.toList.map (fun f => (f.type, f.offset)) = fs.zipIdx.map fun p => (p.1.t, ((fs.take p.2).map (·.sz)).sum)) : OpenE enc w t (fs.map (·.sz)).sum (catG (fs.map (·.G))) := ⟨hc, fun n cs x h => by
  obtain ⟨xs, n', _, rfl, hl, hlen, hf⟩ := DataW.trod_struct ht h
  have hsz : F.size = fs.length := by have := congrArg List.length hF; simpa using this
  obtain ⟨L, h1, h2, h3, h4⟩ := oe_fields (n := n') (cs := cs) fs 0 (by rw [hl, hc]; omega) (fun i f hi => by
    have hi' : i < fs.length := (List.getElem?_eq_some_iff.1 hi).1
    have hFi : F[i]? = some F[i] := Array.getElem?_eq_getElem (by omega)
    have hx := hf i F[i] hFi
    have he : (F[i].type, F[i].offset) = (f.t, ((fs.take i).map (·.sz)).sum) := by
      have := congrArg (fun l => l[i]?) hF
      simp only [List.getElem?_map, List.getElem?_zipIdx, hi, Array.getElem?_toList, hFi, Option.map_some, Nat.zero_add, Option.some.injEq] at this
      exact this
    injection he with e1 e2
    rw [e1, e2, f.ok.1] at hx
    rw [List.getElem?_eq_getElem (by omega)] at hx
    rw [Nat.zero_add]
    exact ⟨_, hx⟩)
  exact ⟨L, h1, by simpa using h2, by simpa using h3, h4⟩⟩
end
end Go.Proofs.YteecmgonbdbhdaaDoor.A
end
