/-
The reference's Flip.
-/
import Derived.Test.YtkdjacmabeeceaaFlip
namespace Go.Proofs.Ytkdjacmabeeceaa
open Go.RowKit
attribute [local go_sem ↓] Go.wp_at_zero Go.wp_at_succ

theorem mod_any (a n : Int) (hn : 0 < n) (hn2 : n ≤ 4611686018427387904) (w : World) :
    Calls Try.prog 56 #[.int .i64 a, .int .i64 n] w fun e w' => e = .returned (.int .i64 (a % n)) ∧ w = w' := by
  have b1 := Int.tmod_lt_of_pos a hn
  have b2 := Int.lt_tmod_of_pos a hn
  have hz : ¬ n = 0 := by omega
  by_cases hr : a.tmod n < 0
  · have hE := Lib.hid (show a.tmod n + n = a % n by
      have h1 := Int.tmod_def a n
      have h2 := Int.emod_def a n
      have e1 : (a.tmod n + n) % n = a % n := by
        rw [Int.add_emod_right, Int.tmod_eq_emod]
        split
        · rw [show ((0 : Nat) : Int) = 0 from rfl, Int.sub_zero, Int.emod_emod_of_dvd _ (Int.dvd_refl n)]
        · rw [Int.sub_emod, Int.emod_emod_of_dvd _ (Int.dvd_refl n), show (n.natAbs : Int) = n by omega, Int.emod_self, Int.sub_zero, Int.emod_emod_of_dvd _ (Int.dvd_refl n)]
      rw [← e1, Int.emod_eq_of_lt (by omega) (by omega)])
    go_enter Try.func56, Try.ntmps56
    go_wp2
    go_ret
    rw [← hE.out]
    exact ⟨rfl, rfl⟩
  · have hE := Lib.hid (show a.tmod n = a % n by
      rw [Int.tmod_eq_emod]
      have e1 := Int.tmod_eq_emod (a := a) (b := n)
      split
      · omega
      · rename_i hc
        rw [if_neg hc] at e1
        have := Int.emod_lt_of_pos a hn
        omega)
    go_enter Try.func56, Try.ntmps56
    go_wp2
    go_ret
    rw [← hE.out]
    exact ⟨rfl, rfl⟩

theorem or_one (a : Nat) : a ||| 1 = if a % 2 = 0 then a + 1 else a := by
  obtain ⟨q, hq⟩ : ∃ q, a = 2 ^ 1 * q ∨ a = 2 ^ 1 * q + 1 := ⟨a / 2, by omega⟩
  have h := Nat.two_pow_add_eq_or_of_lt (i := 1) (b := 1) (by decide) q
  rcases hq with rfl | rfl
  · rw [if_pos (by omega), h]
  · rw [if_neg (by omega), h, Nat.or_assoc, Nat.or_self]
/-- The bits that are turned, as one number. -/
def fX (bs : Int) : Nat := (bs % 4294967296).toNat ||| 1
theorem fX_lt (bs : Int) : fX bs < 4294967296 := by
  unfold fX
  have : (bs % 4294967296).toNat < 2 ^ 32 := by omega
  exact Nat.or_lt_two_pow this (by decide)
theorem fsel_X (bs : Int) (i : Nat) : fsel bs i = decide (fX bs / 2 ^ i % 2 = 1) := by
  unfold fsel
  have h0 : (bs % 4294967296).toNat < 4294967296 := by omega
  have e0 : bs % 4294967296 = ((bs % 4294967296).toNat : Int) := by omega
  rw [e0, show (1 : Int) = ((1 : Nat) : Int) from rfl, u32_or_nat _ _ h0 (by decide)]
  have e1 : (((bs % 4294967296).toNat ||| 1 : Nat) : Int) / 2 ^ i = ((fX bs / 2 ^ i : Nat) : Int) := by
    unfold fX
    simp
  rw [e1, u32_and_nat _ _ (Nat.lt_of_le_of_lt (Nat.div_le_self _ _) (fX_lt bs)) (by decide), Nat.and_one_is_mod]
  by_cases h : fX bs / 2 ^ i % 2 = 1
  · simp [h]
  · simp only [h, decide_false, beq_eq_false_iff_ne, ne_eq]; omega
theorem flipN_stop (p : Nat → Bool) (a : Nat) (b : List UInt8) (k : Nat) (h : ∀ j, k ≤ j → p j = false ∨ 8 * b.length ≤ a + j) : ∀ n, k ≤ n → flipN p a b n = flipN p a b k := by
  intro n hn
  induction n with
  | zero => obtain rfl : k = 0 := by omega
            rfl
  | succ n ih =>
    by_cases hk : k = n + 1
    · rw [hk]
    · rw [flipN, if_neg, ih (by omega)]
      rcases h n (by omega) with h | h
      · simp [h]
      · simp; omega
theorem flipAt_mod {bit : Int} {n : Nat} (h0 : n ≠ 0) : (flipAt bit n : Int) = bit % (8 * (n : Int)) := by
  have hp : (0 : Int) < 8 * (n : Int) := by omega
  have a2 := Int.lt_tmod_of_pos bit hp
  unfold flipAt
  have e : (bit.tmod (8 * (n : Int)) + 8 * (n : Int)).tmod (8 * (n : Int)) = bit % (8 * (n : Int)) := by
    rw [Int.tmod_eq_emod_of_nonneg (by omega), Int.add_emod_right, Int.tmod_eq_emod]
    split
    · rw [show ((0 : Nat) : Int) = 0 from rfl, Int.sub_zero, Int.emod_emod_of_dvd _ (Int.dvd_refl _)]
    · rw [Int.sub_emod, Int.emod_emod_of_dvd _ (Int.dvd_refl _), show ((8 * (n : Int)).natAbs : Int) = 8 * (n : Int) by omega, Int.emod_self, Int.sub_zero, Int.emod_emod_of_dvd _ (Int.dvd_refl _)]
  rw [e]
  have := Int.emod_nonneg bit (show 8 * (n : Int) ≠ 0 by omega)
  omega
set_option maxHeartbeats 400000 in
theorem twin3_any (v : Value) (l : List UInt8) (w : World) (Mi : Ms) (h : SlR w Mi v l) (hl : l.length ≤ 1000000000) :
    Calls Try.prog 12 #[v] w fun e w' => ∃ r, e = .returned r ∧ OwR w' noM w.heap.size 5 r l ∧ Below w.heap.size w w' := by
  have hs := h.mono (Keep.less (M' := noM) fun _ h' => h'.elim)
  go_enter Try.func12, Try.ntmps12
  go_wp2_with (at_builtin; go_must (refine wpList_append_R (α := UInt8) (M := noM) (base := w.heap.size) (l := []) (m := l) (v := .slice none 0 0) (u := v) rfl (by rfl) ty32 (by rfl) (OwR.nil _ _ _ _) (by rfl) (hs.mono (Keep.ownNil _ _ _)) (by simpa using hl) (Nat.le_refl _) ?_; intro v1 w1 ho hg hat))
  go_ret
  exact ⟨_, rfl, ho, Below.ofNil hg⟩

set_option maxRecDepth 100000 in
set_option maxHeartbeats 4000000 in
theorem rflip_any (v : Value) (l : List UInt8) (bit bs : Int) (w : World) (Mi M : Ms) (h : SlR w Mi v l) (hM : MOk w M) (hl : l.length ≤ 1000000) :
    Calls Try.prog 49 #[v, .int .i64 bit, .int .i64 bs] w fun e w' => ∃ r, e = .returned r ∧ SlR w' M r (flipS l bit bs) ∧ Below w.heap.size w w' := by
  obtain ⟨a, c, rfl⟩ := h.form
  have H := Lib.hid h
  have hM' := Lib.hid hM
  clear h hM
  go_enter Try.func49, Try.ntmps49
  go_wp2_with fail
  refine (twin3_any _ l w Mi H.out (by omega)).mono ?_
  rintro q w1 ⟨r1, rfl, hr1, hB1⟩
  obtain ⟨A1, C1, rfl⟩ := hr1.form
  have O1 := Lib.hid hr1
  have B1 := Lib.hid hB1
  clear hr1 hB1
  by_cases hn : l.length = 0
  case pos =>
    have hR := Lib.hid (show flipS l bit bs = l by rw [List.eq_nil_of_length_eq_zero hn]; exact flipS_nil _ _)
    have h0 : ((l.length : Int) == 0) = true := by simp [hn]
    replace hn := Lib.hid hn
    go_wp2
    go_ret
    rw [hR.out]
    exact ⟨_, rfl, (OwR.u8' (M' := M) O1.out).sl hM'.out.new, B1.out⟩
  have h0 : ((l.length : Int) == 0) = false := by rw [beq_eq_false_iff_ne]; omega
  go_wp2_with fail
  refine (mod_any bit (8 * (l.length : Int)) (by omega) (by omega) w1).mono ?_
  rintro q w2 ⟨rfl, rfl⟩
  rw [← flipAt_mod hn]
  go_wp2_with fail
  refine (mod_any bs 4294967296 (by omega) (by omega) w1).mono ?_
  rintro q w2 ⟨rfl, rfl⟩
  have hX : fX bs = if (bs % 4294967296).toNat % 2 = 0 then (bs % 4294967296).toNat + 1 else (bs % 4294967296).toNat := or_one _
  have hXl := fX_lt bs
  have hR := Lib.hid (show flipN (fsel bs) (flipAt bit l.length) l 32 = flipS l bit bs from rfl)
  have hal : (flipAt bit l.length : Int) < 8 * l.length := by rw [flipAt_mod hn]; exact Int.emod_lt_of_pos _ (by omega)
  obtain ⟨g, cg, hv, -, -⟩ := u8O_at O1.out (k := 0) (by omega)
  simp only [Value.slice.injEq] at hv
  obtain ⟨rfl, -, rfl⟩ := hv
  generalize flipAt bit l.length = at0 at *
  obtain ⟨X0, hX0⟩ : ∃ X0 : Nat, bs % 4294967296 = X0 := ⟨(bs % 4294967296).toNat, by omega⟩
  have hX0l : X0 < 4294967296 := by omega
  rw [hX0] at hX ⊢
  simp only [Int.toNat_natCast] at hX
  have hsel := Lib.hid (fsel_X bs)
  generalize fX bs = X at *
  by_cases hev : X0 % 2 = 0
  · have he1 : ((X0 : Int).tmod 2 == 0) = true := by rw [Int.tmod_eq_emod_of_nonneg (by omega), beq_iff_eq]; omega
    have he2 : ((X0 : Int) % 2 == 0) = true := by rw [beq_iff_eq]; omega
    rw [if_pos hev] at hX
    clear hev hX0 hn h0
    go_wp2_with fail
    clear he1 he2
    clear hX0l
    go_loopw [9, 10] (fun x i wr => ∃ k : Nat, k ≤ 32 ∧ x = .int .i64 ((X / 2 ^ k : Nat) : Int) ∧ i = .int .i64 ((at0 : Int) + k) ∧ Hid (OwR wr noM w.heap.size 5 (.slice (some ⟨g, 0, none⟩) l.length C1) (flipN (fsel bs) at0 l k) ∧ Below w.heap.size w wr)) (fun x _ _ => (intOf x).toNat)
    case atStart => exact ⟨0, Nat.zero_le _, by rw [hX]; simp, by simp, Lib.hid ⟨O1.out, B1.out⟩⟩
    case round =>
      clear hX
      obtain ⟨k, hk, rfl, rfl, HS⟩ := hrel
      obtain ⟨y, hy⟩ : ∃ y, X / 2 ^ k = y := ⟨_, rfl⟩
      rw [hy]
      have HY := Lib.hid hy
      have hyl : y < 4294967296 := by rw [← hy]; exact Nat.lt_of_le_of_lt (Nat.div_le_self _ _) hXl
      by_cases h1 : 0 < y ∧ at0 + k < 8 * l.length
      · have hk32 : k < 32 := by
          rcases Nat.lt_or_ge k 32 with h | h
          · exact h
          · have : X / 2 ^ k = 0 := Nat.div_eq_of_lt (Nat.lt_of_lt_of_le hXl (Nat.pow_le_pow_right (n := 2) (by omega) h))
            omega
        have hy0 : (0 : Int) < y := by omega
        have hik : (at0 : Int) + k < 8 * l.length := by omega
        have hnx : X / 2 ^ (k + 1) = y / 2 := by rw [← hy, Nat.pow_succ, Nat.div_div_eq_div_mul]
        have HX := Lib.hid hnx
        have hd1 : (y : Int).tdiv 2 = ((y / 2 : Nat) : Int) := by rw [Int.tdiv_eq_ediv_of_nonneg (by omega)]; omega
        have hd2 : (y : Int) / 2 = ((y / 2 : Nat) : Int) := by omega
        obtain ⟨z2, hz2⟩ : ∃ z2, y / 2 = z2 := ⟨_, rfl⟩
        rw [hz2] at hd1 hd2
        have hzy : z2 < y := by omega
        replace HX := Lib.hid (HX.out.trans hz2)
        have hsk := hsel.out k
        rw [hy] at hsk
        clear hnx hy hz2
        by_cases hod : y % 2 = 1
        · have ho1 : ((y : Int).tmod 2 == 1) = true := by rw [Int.tmod_eq_emod_of_nonneg (by omega), beq_iff_eq]; omega
          have ho2 : ((y : Int) % 2 == 1) = true := by rw [beq_iff_eq]; omega
          have hE := Lib.hid (show flipN (fsel bs) at0 l (k + 1) = flipB (flipN (fsel bs) at0 l k) (at0 + k) by rw [flipN, if_pos]; rw [hsk]; simp [hod, h1.2])
          obtain ⟨q, hqe⟩ : ∃ q, (at0 + k) / 8 = q := ⟨_, rfl⟩
          obtain ⟨r, hre⟩ : ∃ r, (at0 + k) % 8 = r := ⟨_, rfl⟩
          have hq3 : ((at0 : Int) + k).tdiv 8 = q := by rw [Int.tdiv_eq_ediv_of_nonneg (by omega)]; omega
          have hq4 : ((at0 : Int) + k) / 8 = q := by omega
          have hr3 : ((at0 : Int) + k).tmod 8 = r := by rw [Int.tmod_eq_emod_of_nonneg (by omega)]; omega
          have hr4 : ((at0 : Int) + k) % 8 = r := by omega
          have hr8 : r < 8 := by omega
          obtain ⟨z, hz⟩ : ∃ z : Nat, 2 ^ r = z := ⟨_, rfl⟩
          have hz256 : z < 256 := by rw [← hz]; have := Nat.pow_lt_pow_right (a := 2) (by omega) hr8; omega
          have hmn : min r 8 = r := by omega
          have hw1 : IntKind.u8.wrap (2 ^ r : Int) = (z : Int) := by
            have : ((2 ^ r : Nat) : Int) = (2 ^ r : Int) := by simp
            rw [← this, hz, IntKind.wrap_u8]; omega
          have hql : q < (flipN (fsel bs) at0 l k).length := by rw [flipN_length]; omega
          have hql' : (q : Int) < l.length := by omega
          have HL := Lib.hid (flipN_length (fsel bs) at0 l k)
          generalize flipN (fsel bs) at0 l k = L at *
          obtain ⟨g', cg', hv, hf, x1⟩ := u8O_at HS.out.1 hql
          simp only [Value.slice.injEq, Option.some.injEq, Addr.mk.injEq, and_true] at hv
          obtain ⟨rfl, -, rfl⟩ := hv
          replace hf := hf q
          obtain ⟨y2, hy2⟩ : ∃ y, L[q] ^^^ UInt8.ofNat z = y := ⟨_, rfl⟩
          have hx : bits .xor .u8 (L[q].toNat : Int) (z : Int) = (y2.toNat : Int) := by rw [← hy2, ← hz]; have := flip_byte L[q] r hr8; simpa using this
          have hEy := Lib.hid (show flipB L (at0 + k) = L.set q y2 by subst hqe; subst hre; rw [flipB_set _ _ hql, hz, hy2])
          clear hz hy2 hqe hre hsk hod
          have O2 := Lib.hid (HS.out.1.setU8 hql y2)
          have hge := HS.out.1.own_ge rfl
          have B2 := Lib.hid (HS.out.2.setCell (p := ⟨g, q, none⟩) hge (.int .u8 y2.toNat))
          replace hge := Lib.hid hge
          go_wp2
          go_roundw
          case rel => exact ⟨k + 1, by omega, by rw [HX.out], by go_num, by rw [hE.out, hEy.out]; exact Lib.hid ⟨O2.out, B2.out⟩⟩
          case measure => simp [intOf]; omega
        · have ho1 : ((y : Int).tmod 2 == 1) = false := by rw [Int.tmod_eq_emod_of_nonneg (by omega), beq_eq_false_iff_ne]; omega
          have ho2 : ((y : Int) % 2 == 1) = false := by rw [beq_eq_false_iff_ne]; omega
          have hE := Lib.hid (show flipN (fsel bs) at0 l (k + 1) = flipN (fsel bs) at0 l k by rw [flipN, if_neg]; rw [hsk]; simp [hod])
          clear hsk hod
          go_wp2
          go_roundw
          case rel => exact ⟨k + 1, by omega, by rw [HX.out], by go_num, by rw [hE.out]; exact HS⟩
          case measure => simp [intOf]; omega
      · have hE := Lib.hid (show flipN (fsel bs) at0 l 32 = flipN (fsel bs) at0 l k from flipN_stop _ _ _ _ (fun j hj => by
          by_cases hy0 : 0 < y
          · right; omega
          · left
            rw [hsel.out]
            have h2 : X / 2 ^ j = 0 := by
              have e : X / 2 ^ j ≤ X / 2 ^ k := Nat.div_le_div_left (Nat.pow_le_pow_right (by omega) hj) (Nat.pow_pos (by omega))
              rw [HY.out, show y = 0 by omega] at e
              exact Nat.le_zero.1 e
            rw [h2]; rfl) 32 hk)
        clear hy
        rcases (show y = 0 ∨ (0 < y ∧ 8 * l.length ≤ at0 + k) by omega) with rfl | ⟨h2, h3⟩
        · go_wp2
          go_ret
          rw [← hR.out, hE.out]
          exact ⟨_, rfl, by have := (OwR.u8' (M' := M) HS.out.1).sl hM'.out.new; exact this, HS.out.2⟩
        · have h2' : (0 : Int) < y := by omega
          have h3' : ¬ (at0 : Int) + k < 8 * l.length := by omega
          go_wp2
          go_ret
          rw [← hR.out, hE.out]
          exact ⟨_, rfl, by have := (OwR.u8' (M' := M) HS.out.1).sl hM'.out.new; exact this, HS.out.2⟩
  · have he1 : ((X0 : Int).tmod 2 == 0) = false := by rw [Int.tmod_eq_emod_of_nonneg (by omega), beq_eq_false_iff_ne]; omega
    have he2 : ((X0 : Int) % 2 == 0) = false := by rw [beq_eq_false_iff_ne]; omega
    rw [if_neg hev] at hX
    clear hev hX0 hn h0
    go_wp2_with fail
    clear he1 he2
    clear hX0l
    go_loopw [9, 10] (fun x i wr => ∃ k : Nat, k ≤ 32 ∧ x = .int .i64 ((X / 2 ^ k : Nat) : Int) ∧ i = .int .i64 ((at0 : Int) + k) ∧ Hid (OwR wr noM w.heap.size 5 (.slice (some ⟨g, 0, none⟩) l.length C1) (flipN (fsel bs) at0 l k) ∧ Below w.heap.size w wr)) (fun x _ _ => (intOf x).toNat)
    case atStart => exact ⟨0, Nat.zero_le _, by rw [hX]; simp, by simp, Lib.hid ⟨O1.out, B1.out⟩⟩
    case round =>
      clear hX
      obtain ⟨k, hk, rfl, rfl, HS⟩ := hrel
      obtain ⟨y, hy⟩ : ∃ y, X / 2 ^ k = y := ⟨_, rfl⟩
      rw [hy]
      have HY := Lib.hid hy
      have hyl : y < 4294967296 := by rw [← hy]; exact Nat.lt_of_le_of_lt (Nat.div_le_self _ _) hXl
      by_cases h1 : 0 < y ∧ at0 + k < 8 * l.length
      · have hk32 : k < 32 := by
          rcases Nat.lt_or_ge k 32 with h | h
          · exact h
          · have : X / 2 ^ k = 0 := Nat.div_eq_of_lt (Nat.lt_of_lt_of_le hXl (Nat.pow_le_pow_right (n := 2) (by omega) h))
            omega
        have hy0 : (0 : Int) < y := by omega
        have hik : (at0 : Int) + k < 8 * l.length := by omega
        have hnx : X / 2 ^ (k + 1) = y / 2 := by rw [← hy, Nat.pow_succ, Nat.div_div_eq_div_mul]
        have HX := Lib.hid hnx
        have hd1 : (y : Int).tdiv 2 = ((y / 2 : Nat) : Int) := by rw [Int.tdiv_eq_ediv_of_nonneg (by omega)]; omega
        have hd2 : (y : Int) / 2 = ((y / 2 : Nat) : Int) := by omega
        obtain ⟨z2, hz2⟩ : ∃ z2, y / 2 = z2 := ⟨_, rfl⟩
        rw [hz2] at hd1 hd2
        have hzy : z2 < y := by omega
        replace HX := Lib.hid (HX.out.trans hz2)
        have hsk := hsel.out k
        rw [hy] at hsk
        clear hnx hy hz2
        by_cases hod : y % 2 = 1
        · have ho1 : ((y : Int).tmod 2 == 1) = true := by rw [Int.tmod_eq_emod_of_nonneg (by omega), beq_iff_eq]; omega
          have ho2 : ((y : Int) % 2 == 1) = true := by rw [beq_iff_eq]; omega
          have hE := Lib.hid (show flipN (fsel bs) at0 l (k + 1) = flipB (flipN (fsel bs) at0 l k) (at0 + k) by rw [flipN, if_pos]; rw [hsk]; simp [hod, h1.2])
          obtain ⟨q, hqe⟩ : ∃ q, (at0 + k) / 8 = q := ⟨_, rfl⟩
          obtain ⟨r, hre⟩ : ∃ r, (at0 + k) % 8 = r := ⟨_, rfl⟩
          have hq3 : ((at0 : Int) + k).tdiv 8 = q := by rw [Int.tdiv_eq_ediv_of_nonneg (by omega)]; omega
          have hq4 : ((at0 : Int) + k) / 8 = q := by omega
          have hr3 : ((at0 : Int) + k).tmod 8 = r := by rw [Int.tmod_eq_emod_of_nonneg (by omega)]; omega
          have hr4 : ((at0 : Int) + k) % 8 = r := by omega
          have hr8 : r < 8 := by omega
          obtain ⟨z, hz⟩ : ∃ z : Nat, 2 ^ r = z := ⟨_, rfl⟩
          have hz256 : z < 256 := by rw [← hz]; have := Nat.pow_lt_pow_right (a := 2) (by omega) hr8; omega
          have hmn : min r 8 = r := by omega
          have hw1 : IntKind.u8.wrap (2 ^ r : Int) = (z : Int) := by
            have : ((2 ^ r : Nat) : Int) = (2 ^ r : Int) := by simp
            rw [← this, hz, IntKind.wrap_u8]; omega
          have hql : q < (flipN (fsel bs) at0 l k).length := by rw [flipN_length]; omega
          have hql' : (q : Int) < l.length := by omega
          have HL := Lib.hid (flipN_length (fsel bs) at0 l k)
          generalize flipN (fsel bs) at0 l k = L at *
          obtain ⟨g', cg', hv, hf, x1⟩ := u8O_at HS.out.1 hql
          simp only [Value.slice.injEq, Option.some.injEq, Addr.mk.injEq, and_true] at hv
          obtain ⟨rfl, -, rfl⟩ := hv
          replace hf := hf q
          obtain ⟨y2, hy2⟩ : ∃ y, L[q] ^^^ UInt8.ofNat z = y := ⟨_, rfl⟩
          have hx : bits .xor .u8 (L[q].toNat : Int) (z : Int) = (y2.toNat : Int) := by rw [← hy2, ← hz]; have := flip_byte L[q] r hr8; simpa using this
          have hEy := Lib.hid (show flipB L (at0 + k) = L.set q y2 by subst hqe; subst hre; rw [flipB_set _ _ hql, hz, hy2])
          clear hz hy2 hqe hre hsk hod
          have O2 := Lib.hid (HS.out.1.setU8 hql y2)
          have hge := HS.out.1.own_ge rfl
          have B2 := Lib.hid (HS.out.2.setCell (p := ⟨g, q, none⟩) hge (.int .u8 y2.toNat))
          replace hge := Lib.hid hge
          go_wp2
          go_roundw
          case rel => exact ⟨k + 1, by omega, by rw [HX.out], by go_num, by rw [hE.out, hEy.out]; exact Lib.hid ⟨O2.out, B2.out⟩⟩
          case measure => simp [intOf]; omega
        · have ho1 : ((y : Int).tmod 2 == 1) = false := by rw [Int.tmod_eq_emod_of_nonneg (by omega), beq_eq_false_iff_ne]; omega
          have ho2 : ((y : Int) % 2 == 1) = false := by rw [beq_eq_false_iff_ne]; omega
          have hE := Lib.hid (show flipN (fsel bs) at0 l (k + 1) = flipN (fsel bs) at0 l k by rw [flipN, if_neg]; rw [hsk]; simp [hod])
          clear hsk hod
          go_wp2
          go_roundw
          case rel => exact ⟨k + 1, by omega, by rw [HX.out], by go_num, by rw [hE.out]; exact HS⟩
          case measure => simp [intOf]; omega
      · have hE := Lib.hid (show flipN (fsel bs) at0 l 32 = flipN (fsel bs) at0 l k from flipN_stop _ _ _ _ (fun j hj => by
          by_cases hy0 : 0 < y
          · right; omega
          · left
            rw [hsel.out]
            have h2 : X / 2 ^ j = 0 := by
              have e : X / 2 ^ j ≤ X / 2 ^ k := Nat.div_le_div_left (Nat.pow_le_pow_right (by omega) hj) (Nat.pow_pos (by omega))
              rw [HY.out, show y = 0 by omega] at e
              exact Nat.le_zero.1 e
            rw [h2]; rfl) 32 hk)
        clear hy
        rcases (show y = 0 ∨ (0 < y ∧ 8 * l.length ≤ at0 + k) by omega) with rfl | ⟨h2, h3⟩
        · go_wp2
          go_ret
          rw [← hR.out, hE.out]
          exact ⟨_, rfl, by have := (OwR.u8' (M' := M) HS.out.1).sl hM'.out.new; exact this, HS.out.2⟩
        · have h2' : (0 : Int) < y := by omega
          have h3' : ¬ (at0 : Int) + k < 8 * l.length := by omega
          go_wp2
          go_ret
          rw [← hR.out, hE.out]
          exact ⟨_, rfl, by have := (OwR.u8' (M' := M) HS.out.1).sl hM'.out.new; exact this, HS.out.2⟩
end Go.Proofs.Ytkdjacmabeeceaa
