/-
The law RecCells answers true: a right record's two cells open and tell it.
-/
import Derived.Test.YtpknhpfbinplgaaRfRec
import Derived.Test.YtpknhpfbinplgaaRcCell
import Derived.Test.YtpknhpfbinplgaaRcOpenS
import Derived.Test.YtpknhpfbinplgaaRcDraw
import Derived.Deep.DeepCutAuto
namespace Go.Proofs.Ytpknhpfbinplgaa
open Go.RowKit
attribute [local go_sem ↓] Go.wp_at_zero Go.wp_at_succ

theorem take_all {l m : List UInt8} {n : Nat} (h : l.length = n) : (l ++ m).take n = l := by subst h; simp
theorem drop_all {l m : List UInt8} {n : Nat} (h : l.length = n) : (l ++ m).drop n = m := by subst h; simp
theorem sealHead_len (a s : Int) (p : List UInt8) : (sealHead a s p).length = p.length + 7 := by
  simp only [sealHead, List.length_append, List.length_cons, leB_len]
theorem sealB_len (a s : Int) (p : List UInt8) : (sealB a s p).length = p.length + 11 := by
  simp only [sealB, List.length_append, sealHead_len, leB_len]
theorem seal_open {a s : Int} {p : List UInt8} (h : okS a s p) : openE (sealB a s p) = 0 ∧ secAddr (sealB a s p) = a ∧ secStamp (sealB a s p) = s ∧ secPay (sealB a s p) = p := by
  obtain ⟨h1, h2, h3, h4, h5⟩ := h
  have hl := sealB_len a s p
  have hs := sumC_le (sealHead a s p)
  have e1 : sealB a s p = sealHead a s p ++ leB 4 (sumC (sealHead a s p)) := rfl
  have e2 : sealB a s p = (UInt8.ofNat p.length :: p) ++ (leB 2 a.toNat ++ (leB 4 s.toNat ++ leB 4 (sumC (sealHead a s p)))) := by rw [e1]; simp only [sealHead, List.append_assoc]
  have e3 : sealB a s p = ((UInt8.ofNat p.length :: p) ++ leB 2 a.toNat) ++ (leB 4 s.toNat ++ leB 4 (sumC (sealHead a s p))) := by rw [e2, List.append_assoc]
  have hpn : partN (sealB a s p) = p.length := by
    rw [e2]
    show (UInt8.ofNat p.length).toNat = p.length
    rw [UInt8.toNat_ofNat_of_lt']
    exact Nat.lt_of_le_of_lt h5 (by decide)
  refine ⟨?_, ?_, ?_, ?_⟩
  · unfold openE
    rw [if_neg (by omega), if_neg, if_pos]
    · refine ⟨?_, by omega⟩
      simp only [partOk, decide_eq_true_eq]
      omega
    · rw [hl, show p.length + 11 - 4 = p.length + 7 by omega, e1, drop_all (sealHead_len a s p), take_all (sealHead_len a s p), leN_leB _ _ (by have : (256 : Nat) ^ 4 = 4294967296 := rfl; omega)]
      simp
  · unfold secAddr
    rw [hl, show p.length + 11 - 10 = p.length + 1 by omega, e2, drop_all (by simp), take_all (leB_len 2 _), leN_leB _ _ (by have : (256 : Nat) ^ 2 = 65536 := rfl; omega)]
    omega
  · unfold secStamp
    rw [hl, show p.length + 11 - 8 = p.length + 3 by omega, e3, drop_all (by simp [leB_len]), take_all (leB_len 4 _), leN_leB _ _ (by have : (256 : Nat) ^ 4 = 4294967296 := rfl; omega)]
    omega
  · unfold secPay
    rw [hl, show p.length + 11 - 11 = p.length by omega, e2]
    simp
theorem cell_okS {g : Geo} {r : Rc} {copy slot : Int} (h : okR g r = true) (hl : okL g copy slot = true) : okS (logAt g copy slot) r.seq (recB r) := by
  have h1 := logAt_bounds (okR_parts h).1 hl
  have h2 := okR_seq h
  have h3 := recB_short h
  exact ⟨h1.1, h1.2, h2.1, h2.2, by omega⟩

theorem cell_len {g : Geo} {r : Rc} (h : okR g r = true) (copy slot : Int) : (cellB g r copy slot).length ≤ 100000 := by
  have h1 := recB_short h
  rw [cellB, sealB_len]
  omega

set_option maxRecDepth 100000 in
set_option maxHeartbeats 16000000 in
theorem cells_any (g : Geo) (r : Rc) (v : Value) (slot : Int) (w : World) (Mi : Ms) (h : SlR w Mi v r.img.bytes) :
    Calls Try.prog 8 #[gv g, rv r v, .int .i64 slot] w fun e w' => e = .returned (.bool true) ∧ Below w.heap.size w w' := by
  obtain ⟨kind, seq, epoch, at_, of_, ⟨zone, what, bytes⟩⟩ := r
  obtain ⟨z, d, sp, sl, an⟩ := g
  simp only at h
  obtain ⟨a, c, rfl⟩ := h.form
  have hcap := h.cap
  have hb1 := (Below.refl w.heap.size w).alloc (Nat.le_refl _) (.cells #[.int .i64 z, .int .i64 d, .int .i64 sp, .int .i64 sl, .int .i64 an] 23)
  have hb2 := hb1.alloc (by simp) (.cells #[.int .i64 kind, .int .i64 seq, .int .i64 epoch, .int .i64 at_, .int .i64 of_, .int .i64 zone, .int .i64 what, .slice a bytes.length c] 28)
  have hT := Blk.new (w.alloc (.cells #[.int .i64 z, .int .i64 d, .int .i64 sp, .int .i64 sl, .int .i64 an] 23)) 28 #[.int .i64 kind, .int .i64 seq, .int .i64 epoch, .int .i64 at_, .int .i64 of_, .int .i64 zone, .int .i64 what, .slice a bytes.length c]
  simp only [World.size_alloc] at hT
  have HG := Lib.hid ((Blk.new w 23 #[.int .i64 z, .int .i64 d, .int .i64 sp, .int .i64 sl, .int .i64 an]).alloc (.cells #[.int .i64 kind, .int .i64 seq, .int .i64 epoch, .int .i64 at_, .int .i64 of_, .int .i64 zone, .int .i64 what, .slice a bytes.length c] 28))
  have HB := Lib.hid hb2
  have HT := Lib.hid hT
  have H := Lib.hid h.bare
  have hrg := Lib.hid (fun w' => rgeom_any ⟨z, d, sp, sl, an⟩ w')
  unfold gv at hrg
  unfold gv rv
  simp only at hrg ⊢
  clear hb1 hb2 hT h
  by_cases h2 : 200 < bytes.length
  · have h2' : (200 : Int) < bytes.length := by omega
    go_enter Try.func8, Try.ntmps8
    go_wp2
    go_ret
    exact ⟨rfl, HB.out⟩
  have h2' : ¬ (200 : Int) < bytes.length := by omega
  have hbl : bytes.length ≤ 200 := by omega
  cases hok : okG ⟨z, d, sp, sl, an⟩ with
  | false =>
    rw [hok] at hrg
    clear hok
    go_enter Try.func8, Try.ntmps8
    go_wp2_with (go_at_call 19; go_must (with_reducible refine (hrg.out _).mono ?_); rintro e w1 ⟨rfl, hB1⟩)
    go_ret
    exact ⟨rfl, HB.out.trans (hB1.mono HB.out.size)⟩
  | true =>
  rw [hok] at hrg
  have HGK := Lib.hid hok
  clear hok
  go_enter Try.func8, Try.ntmps8
  go_wp2_with fail
  ((with_reducible refine (hrg.out _).mono ?_); rintro e w1 ⟨rfl, hB1⟩)
  have HB1 := Lib.hid (HB.out.trans (hB1.mono HB.out.size))
  have HG1 := Lib.hid (HG.out.below hB1)
  have HT1 := Lib.hid (HT.out.below hB1)
  have hrr := Lib.hid (rrec_any ⟨z, d, sp, sl, an⟩ ⟨kind, seq, epoch, at_, of_, ⟨zone, what, bytes⟩⟩ (.slice a bytes.length c) w1 noM (H.out.mono (Keep.below HB1.out)) (by simp only; omega) HGK.out)
  unfold gv rv at hrr
  simp only at hrr
  obtain ⟨g1, g2, g3⟩ := HG1.out.all
  obtain ⟨t1, t2, t3⟩ := HT1.out.all
  clear hB1 hrg HB HG HT
  cases hokr : okR ⟨z, d, sp, sl, an⟩ ⟨kind, seq, epoch, at_, of_, ⟨zone, what, bytes⟩⟩ with
  | false =>
    rw [hokr] at hrr
    clear hokr
    go_wp2_with (go_at_call 28; go_must (with_reducible refine hrr.out.mono ?_); rintro e w2 ⟨rfl, hB2⟩)
    go_ret
    exact ⟨rfl, HB1.out.trans (hB2.mono HB1.out.size)⟩
  | true =>
  rw [hokr] at hrr
  have HOK := Lib.hid hokr
  clear hokr
  go_wp2_with fail
  clear g1 g2 g3 t1 t2 t3
  ((with_reducible refine hrr.out.mono ?_); rintro e w2 ⟨rfl, hB2⟩)
  have HB2 := Lib.hid (HB1.out.trans (hB2.mono HB1.out.size))
  have HG2 := Lib.hid (HG1.out.below hB2)
  have HT2 := Lib.hid (HT1.out.below hB2)
  clear hB2 hrr HB1 HG1 HT1
  have hsl0 : (14 : Int) ≤ sl := (okG_iff.1 HGK.out).2.2.2.1.1
  have hsl1 : sl ≤ 30 := (okG_iff.1 HGK.out).2.2.2.1.2
  have han0 : (1 : Int) ≤ an := (okG_iff.1 HGK.out).2.2.2.2.1
  have han1 : an ≤ 3 := (okG_iff.1 HGK.out).2.2.2.2.2
  have hu0 : 0 ≤ IntKind.u64.wrap slot := by have := IntKind.wrap_u64 slot; omega
  have hm1 := Int.tmod_nonneg sl hu0
  have hm2 := Int.tmod_lt_of_pos (IntKind.u64.wrap slot) (show (0 : Int) < sl by omega)
  have hwsl : IntKind.u64.wrap sl = sl := by rw [IntKind.wrap_u64]; omega
  have hsz : (sl == 0) = false := beq_eq_false_iff_ne.2 (by omega)
  have hsz2 : ¬ sl = 0 := by omega
  obtain ⟨m, hm⟩ : ∃ m : Int, (IntKind.u64.wrap slot).tmod sl = m := ⟨_, rfl⟩
  rw [hm] at hm1 hm2
  have hwu : IntKind.u64.wrap m = m := by rw [IntKind.wrap_u64]; omega
  have hwm : IntKind.i64.wrap m = m := by rw [IntKind.wrap_i64]; omega
  have hl0 : okL ⟨z, d, sp, sl, an⟩ 0 m = true := by simp only [okL, Bool.and_eq_true, inB_iff]; omega
  have hl1 : okL ⟨z, d, sp, sl, an⟩ 1 m = true := by simp only [okL, Bool.and_eq_true, inB_iff]; omega
  have HL0 := Lib.hid hl0
  have HL1 := Lib.hid hl1
  have HS0 := Lib.hid (seal_open (cell_okS HOK.out hl0))
  have HS1 := Lib.hid (seal_open (cell_okS HOK.out hl1))
  have hcl0 := cell_len HOK.out 0 m
  have hcl1 := cell_len HOK.out 1 m
  obtain ⟨A0, hA0⟩ : ∃ A0, A0 = logAt ⟨z, d, sp, sl, an⟩ 0 m := ⟨_, rfl⟩
  obtain ⟨A1, hA1⟩ : ∃ A1, A1 = logAt ⟨z, d, sp, sl, an⟩ 1 m := ⟨_, rfl⟩
  have hwA0 : IntKind.i64.wrap (an + m) = A0 := by rw [hA0, IntKind.wrap_i64]; simp only [logAt]; omega
  have hwA1 : IntKind.i64.wrap (A0 + sl) = A1 := by rw [hA0, hA1, IntKind.wrap_i64]; simp only [logAt]; omega
  have HA0 := Lib.hid hA0
  have HA1 := Lib.hid hA1
  have HCL0 := Lib.hid hcl0
  have HCL1 := Lib.hid hcl1
  have HA := Lib.hid (And.intro hwA0 hwA1)
  clear hl0 hl1 hcl0 hcl1 hA0 hA1 hwA0 hwA1 hu0 hm1 hm2 hsl0 hsl1 han0 han1
  have hc0 := Lib.hid (rcell_any ⟨z, d, sp, sl, an⟩ ⟨kind, seq, epoch, at_, of_, ⟨zone, what, bytes⟩⟩ 0 m (.slice a bytes.length c) w2 noM (H.out.mono (Keep.below HB2.out)) (by simp only; omega))
  unfold gv rv at hc0
  simp only at hc0
  obtain ⟨g1, g2, g3⟩ := HG2.out.all
  obtain ⟨t1, t2, t3⟩ := HT2.out.all
  go_wp2_with fail
  clear g1 g2 g3 t1 t2 t3 hm hwsl hsz hsz2 hwu hwm
  ((with_reducible refine hc0.out.mono ?_); rintro e w3 ⟨hU3, hB3⟩)
  have HB3 := Lib.hid (HB2.out.trans (hB3.mono HB2.out.size))
  have HG3 := Lib.hid (HG2.out.below hB3)
  have HT3 := Lib.hid (HT2.out.below hB3)
  clear hB3 hc0 HB2 HG2 HT2
  rcases hU3 with ⟨-, -, va, rfl, hoa⟩ | ⟨hbad, -⟩
  case inr => exact absurd hbad (by rw [HOK.out, HL0.out]; simp)
  have hc1 := Lib.hid (rcell_any ⟨z, d, sp, sl, an⟩ ⟨kind, seq, epoch, at_, of_, ⟨zone, what, bytes⟩⟩ 1 m (.slice a bytes.length c) w3 noM (H.out.mono (Keep.below HB3.out)) (by simp only; omega))
  unfold gv rv at hc1
  simp only at hc1
  have HA3 := Lib.hid (hoa.sl (M := noM) (fun _ _ h => h))
  clear hoa
  obtain ⟨g1, g2, g3⟩ := HG3.out.all
  obtain ⟨t1, t2, t3⟩ := HT3.out.all
  go_wp2_with fail
  clear g1 g2 g3 t1 t2 t3
  ((with_reducible refine hc1.out.mono ?_); rintro e w4 ⟨hU4, hB4⟩)
  have HB4 := Lib.hid (HB3.out.trans (hB4.mono HB3.out.size))
  have HG4 := Lib.hid (HG3.out.below hB4)
  have HT4 := Lib.hid (HT3.out.below hB4)
  have HA4 := Lib.hid (HA3.out.mono (Keep.below hB4))
  clear hB4 hc1 HB3 HG3 HT3 HA3
  rcases hU4 with ⟨-, -, vb, rfl, hob⟩ | ⟨hbad, -⟩
  case inr => exact absurd hbad (by rw [HOK.out, HL1.out]; simp)
  have HV4 := Lib.hid (hob.sl (M := noM) (fun _ _ h => h))
  clear hob
  have ho0 := Lib.hid (open_any va (cellB ⟨z, d, sp, sl, an⟩ ⟨kind, seq, epoch, at_, of_, ⟨zone, what, bytes⟩⟩ 0 m) w4 noM HA4.out HCL0.out)
  obtain ⟨X, hX0⟩ : ∃ X, X = recB ⟨kind, seq, epoch, at_, of_, ⟨zone, what, bytes⟩⟩ := ⟨_, rfl⟩
  have HXE := Lib.hid hX0
  clear hX0
  go_wp2_with fail
  ((with_reducible refine ho0.out.mono ?_); rintro e w5 ⟨hU5, hB5⟩)
  have HB5 := Lib.hid (HB4.out.trans (hB5.mono HB4.out.size))
  have HG5 := Lib.hid (HG4.out.below hB5)
  have HT5 := Lib.hid (HT4.out.below hB5)
  have HV5 := Lib.hid (HV4.out.mono (Keep.below hB5))
  clear hB5 ho0 HB4 HG4 HT4 HV4 HA4
  rcases hU5 with ⟨hbad, -⟩ | ⟨-, vx, rfl, hox⟩
  · exact absurd HS0.out.1 hbad
  rw [show secPay (cellB ⟨z, d, sp, sl, an⟩ ⟨kind, seq, epoch, at_, of_, ⟨zone, what, bytes⟩⟩ 0 m) = X from HS0.out.2.2.2.trans HXE.out.symm] at hox
  rw [show secAddr (cellB ⟨z, d, sp, sl, an⟩ ⟨kind, seq, epoch, at_, of_, ⟨zone, what, bytes⟩⟩ 0 m) = A0 from HS0.out.2.1.trans HA0.out.symm, show secStamp (cellB ⟨z, d, sp, sl, an⟩ ⟨kind, seq, epoch, at_, of_, ⟨zone, what, bytes⟩⟩ 0 m) = seq from HS0.out.2.2.1]
  obtain ⟨px, cx, rfl⟩ := hox.form
  have hb6 := (Below.refl w5.heap.size w5).alloc (Nat.le_refl _) (.cells #[.int .i64 A0, .int .i64 seq, .slice px X.length cx] 65)
  have HX6 := Lib.hid ((hox.sl (M := noM) (fun _ _ h => h)).mono (Keep.below hb6))
  have HP6 := Lib.hid (Blk.new w5 65 #[.int .i64 A0, .int .i64 seq, .slice px X.length cx])
  have HB6 := Lib.hid (HB5.out.trans (hb6.mono HB5.out.size))
  have HG6 := Lib.hid (HG5.out.below hb6)
  have HT6 := Lib.hid (HT5.out.below hb6)
  have ho1 := Lib.hid (open_any vb (cellB ⟨z, d, sp, sl, an⟩ ⟨kind, seq, epoch, at_, of_, ⟨zone, what, bytes⟩⟩ 1 m) _ noM (HV5.out.mono (Keep.below hb6)) HCL1.out)
  clear hox hb6 HB5 HG5 HT5 HV5
  go_wp2_with fail
  ((with_reducible refine ho1.out.mono ?_); rintro e w6 ⟨hU6, hB6⟩)
  have HB7 := Lib.hid (HB6.out.trans (hB6.mono HB6.out.size))
  have HG7 := Lib.hid (HG6.out.below hB6)
  have HT7 := Lib.hid (HT6.out.below hB6)
  have HX7 := Lib.hid (HX6.out.mono (Keep.below hB6))
  have HP7 := Lib.hid (HP6.out.below hB6)
  clear hB6 ho1 HB6 HG6 HT6 HX6 HP6
  rcases hU6 with ⟨hbad, -⟩ | ⟨-, vy, rfl, hoy⟩
  · exact absurd HS1.out.1 hbad
  rw [show secPay (cellB ⟨z, d, sp, sl, an⟩ ⟨kind, seq, epoch, at_, of_, ⟨zone, what, bytes⟩⟩ 1 m) = X from HS1.out.2.2.2.trans HXE.out.symm] at hoy
  rw [show secAddr (cellB ⟨z, d, sp, sl, an⟩ ⟨kind, seq, epoch, at_, of_, ⟨zone, what, bytes⟩⟩ 1 m) = A1 from HS1.out.2.1.trans HA1.out.symm, show secStamp (cellB ⟨z, d, sp, sl, an⟩ ⟨kind, seq, epoch, at_, of_, ⟨zone, what, bytes⟩⟩ 1 m) = seq from HS1.out.2.2.1]
  obtain ⟨py, cy, rfl⟩ := hoy.form
  have hb8 := (Below.refl w6.heap.size w6).alloc (Nat.le_refl _) (.cells #[.int .i64 A1, .int .i64 seq, .slice py X.length cy] 65)
  have HY8 := Lib.hid ((hoy.sl (M := noM) (fun _ _ h => h)).mono (Keep.below hb8))
  have HQ8 := Lib.hid (Blk.new w6 65 #[.int .i64 A1, .int .i64 seq, .slice py X.length cy])
  have HB8 := Lib.hid (HB7.out.trans (hb8.mono HB7.out.size))
  have HG8 := Lib.hid (HG7.out.below hb8)
  have HT8 := Lib.hid (HT7.out.below hb8)
  have HX8 := Lib.hid (HX7.out.mono (Keep.below hb8))
  have HP8 := Lib.hid (HP7.out.below hb8)
  have hxl := recB_short HOK.out
  rw [← HXE.out] at hxl
  have hrd := Lib.hid (rread_any ⟨z, d, sp, sl, an⟩ (.slice px X.length cx) X _ noM HX8.out (by omega))
  unfold gv at hrd
  simp only at hrd
  have HRX := Lib.hid (show readR ⟨z, d, sp, sl, an⟩ X = some ⟨kind, seq, epoch, at_, of_, ⟨zone, what, bytes⟩⟩ by rw [HXE.out]; exact readR_recB HOK.out)
  obtain ⟨p1, p2, p3⟩ := HP7.out.all
  clear hoy hb8 HB7 HT7 HX7 HP7
  obtain ⟨g1, g2, g3⟩ := HG7.out.all
  go_wp2_with fail
  clear g1 g2 g3 p1 p2 p3 HG7
  ((with_reducible refine hrd.out.mono ?_); rintro e w7 ⟨hU7, hB7⟩)
  have HB9 := Lib.hid (HB8.out.trans (hB7.mono HB8.out.size))
  have HG9 := Lib.hid (HG8.out.below hB7)
  have HT9 := Lib.hid (HT8.out.below hB7)
  have HX9 := Lib.hid (HX8.out.mono (Keep.below hB7))
  have HY9 := Lib.hid (HY8.out.mono (Keep.below hB7))
  have HP9 := Lib.hid (HP8.out.below hB7)
  have HQ9 := Lib.hid (HQ8.out.below hB7)
  clear hB7 hrd HB8 HG8 HT8 HX8 HY8 HP8 HQ8
  rcases hU7 with ⟨hbad, -⟩ | ⟨-, hbad, -⟩ | ⟨-, v5, r5, hr5, rfl, ho5⟩
  · exact absurd hbad (by rw [HGK.out]; simp)
  · exact absurd hbad (by rw [HRX.out]; simp)
  rw [HRX.out] at hr5
  injection hr5 with hr5
  subst hr5
  obtain ⟨p5, c5, rfl⟩ := ho5.form
  unfold rv
  simp only
  have hb4 := (Below.refl w7.heap.size w7).alloc (Nat.le_refl _) (.cells #[.int .i64 kind, .int .i64 seq, .int .i64 epoch, .int .i64 at_, .int .i64 of_, .int .i64 zone, .int .i64 what, .slice p5 bytes.length c5] 28)
  have HS5 := Lib.hid ((ho5.below hb4).sl (M := noM) (fun _ _ h => h))
  have HZ := Lib.hid (Blk.new w7 28 #[.int .i64 kind, .int .i64 seq, .int .i64 epoch, .int .i64 at_, .int .i64 of_, .int .i64 zone, .int .i64 what, .slice p5 bytes.length c5])
  have HBW := Lib.hid (HB9.out.trans (hb4.mono HB9.out.size))
  have HGW := Lib.hid (HG9.out.below hb4)
  have HTW := Lib.hid (HT9.out.below hb4)
  have HXW := Lib.hid (HX9.out.mono (Keep.below hb4))
  have HYW := Lib.hid (HY9.out.mono (Keep.below hb4))
  have HPW := Lib.hid (HP9.out.below hb4)
  have HQW := Lib.hid (HQ9.out.below hb4)
  have hk1 := Lib.hid (bytes_any (.slice px X.length cx) (.slice py X.length cy) X X _ noM noM HXW.out HYW.out (by omega))
  rw [show decide (X = X) = true by simp] at hk1
  obtain ⟨hwA0, hwA1⟩ := HA.out
  obtain ⟨g1, g2, g3⟩ := HG9.out.all
  obtain ⟨t1, t2, t3⟩ := HT9.out.all
  obtain ⟨p1, p2, p3⟩ := HP9.out.all
  obtain ⟨y1, y2, y3⟩ := HQ9.out.all
  clear hb4 ho5 HB9 HX9 HY9
  go_wp2_with fail
  clear g1 g2 g3 t1 t2 t3 p1 p2 p3 y1 y2 y3 hwA0 hwA1 HG9 HT9 HP9 HQ9
  ((with_reducible refine hk1.out.mono ?_); rintro e w8 ⟨rfl, hB8⟩)
  have HB10 := Lib.hid (HBW.out.trans (hB8.mono HBW.out.size))
  have HZ10 := Lib.hid (HZ.out.below hB8)
  have HT10 := Lib.hid (HTW.out.below hB8)
  have hk2 := Lib.hid (krec_any ⟨kind, seq, epoch, at_, of_, ⟨zone, what, bytes⟩⟩ ⟨kind, seq, epoch, at_, of_, ⟨zone, what, bytes⟩⟩ (.slice p5 bytes.length c5) (.slice a bytes.length c) w8 noM noM (HS5.out.mono (Keep.below hB8)) (H.out.mono (Keep.below HB10.out)) (by simp only; omega))
  rw [show decide ((⟨kind, seq, epoch, at_, of_, ⟨zone, what, bytes⟩⟩ : Rc) = ⟨kind, seq, epoch, at_, of_, ⟨zone, what, bytes⟩⟩) = true by simp] at hk2
  unfold rv at hk2
  simp only at hk2
  obtain ⟨g1, g2, g3⟩ := HZ10.out.all
  obtain ⟨t1, t2, t3⟩ := HT10.out.all
  clear hB8 hk1 HBW HGW HTW HXW HYW HPW HQW HZ HS5
  go_wp2_with fail
  clear g1 g2 g3 t1 t2 t3 HZ10 HT10
  ((with_reducible refine hk2.out.mono ?_); rintro e w9 ⟨rfl, hB9⟩)
  have HB11 := Lib.hid (HB10.out.trans (hB9.mono HB10.out.size))
  have hwk := Lib.hid (wakes_any w9)
  clear hB9 hk2 HB10
  go_wp2_with fail
  ((with_reducible refine hwk.out.mono ?_); rintro e w10 ⟨rfl, hB10⟩)
  have HB12 := Lib.hid (HB11.out.trans (hB10.mono HB11.out.size))
  clear hB10 hwk HB11
  go_wp2
  go_ret
  exact ⟨rfl, HB12.out⟩
end Go.Proofs.Ytpknhpfbinplgaa
