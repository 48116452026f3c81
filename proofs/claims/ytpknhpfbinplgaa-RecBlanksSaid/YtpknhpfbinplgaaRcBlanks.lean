/-
The law RecBlanks answers true: a blank record is a kind and ten noughts.
-/
import Derived.Test.YtpknhpfbinplgaaRcWake
import Derived.Deep.DeepCutAuto
namespace Go.Proofs.Ytpknhpfbinplgaa
open Go.RowKit
attribute [local go_sem ↓] Go.wp_at_zero Go.wp_at_succ

def zRec : Rc := ⟨0, 0, 0, 0, 0, noImg⟩
def zeros11 : List UInt8 := [0, 0, 0, 0, 0, 0, 0, 0, 0, 0, 0]
theorem zRec_bytes : recB zRec = zeros11 := by decide
theorem zRec_ok {g : Geo} (h : okG g = true) : okR g zRec = true := by simp [okR, h, behOk, zRec, noneB, noImg]
theorem blank_bent {g : Geo} (_h : okG g = true) {j : Nat} (h1 : 1 ≤ j) (h2 : j < 11) {v : UInt8} (hv : v ≠ 0) : readR g (zeros11.set j v) = none := by
  cases hq : readR g (zeros11.set j v) with
  | none => rfl
  | some q =>
    exfalso
    obtain ⟨ho, hb⟩ := readR_some hq
    have hk : q.kind = 0 := by
      have hp := parse_recB ho
      rw [hb] at hp
      rw [← hp]
      simp only [parseR, nums, List.getD_cons_zero]
      have : (zeros11.set j v).take (Int.toNat 1) = [0] := by
        obtain ⟨m, rfl⟩ : ∃ m, j = m + 1 := ⟨j - 1, by omega⟩
        rfl
      rw [this]
      rfl
    have hz : q = zRec := by
      rcases (okR_parts ho).2 with h | h | h
      · obtain ⟨k, s, e, a, o, ⟨z, n, l⟩⟩ := q
        simp only at h
        obtain ⟨rfl, rfl, rfl, rfl, rfl, rfl, rfl, rfl⟩ := h
        rfl
      · omega
      · omega
    rw [hz, zRec_bytes] at hb
    have h3 : (zeros11.set j v)[j]? = some v := by rw [List.getElem?_set_self]; simp [zeros11]; omega
    have h4 : zeros11[j]? = some 0 := by
      match j, h2 with
      | 0, _ | 1, _ | 2, _ | 3, _ | 4, _ | 5, _ | 6, _ | 7, _ | 8, _ | 9, _ | 10, _ => rfl
    rw [← hb, h4] at h3
    exact hv (Option.some.inj h3).symm
theorem OwR.setU8 {w : World} {M : Ms} {base g c j n : Nat} {e : TypeId} {l : List UInt8} (h : OwR w M base e (.slice (some ⟨g, 0, none⟩) n c) l) (hj : j < l.length) (y : UInt8) :
    OwR (w.setCell ⟨g, j, none⟩ (.int .u8 y.toNat)) M base e (.slice (some ⟨g, 0, none⟩) n c) (l.set j y) := by
  have := h.setF hj (f := 0) (show 0 < 1 by omega) (.int .u8 y.toNat) y (fun cs hcs => by
    have hcs' : cs = [.int .u8 l[j].toNat] := hcs
    subst hcs'
    rfl)
  rwa [show j * Rp.sz UInt8 + 0 = j by show j * 1 + 0 = j; omega] at this
theorem OwR.u8row {w : World} {M : Ms} {base : Nat} {e : TypeId} {v : Value} {l : List UInt8} (h : OwR w M base e v l) (hl : 0 < l.length) :
    ∃ g c, v = .slice (some ⟨g, 0, none⟩) l.length c ∧ base ≤ g ∧ g < w.heap.size ∧ (∀ i, w.frozen? ⟨g, i, none⟩ = false) ∧ ∀ k (hk : k < l.length), w.cell? ⟨g, k, none⟩ = some (.int .u8 l[k].toNat) := by
  obtain ⟨g, c, cs, rfl, hb, -, hf, he, hc⟩ := h.at_ hl
  have hs := h.sl' (M := noM) (fun _ _ h => h)
  have key : ∀ k (hk : k < l.length), w.cell? ⟨g, k, none⟩ = some (.int .u8 l[k].toNat) := fun k hk => by
    obtain ⟨b', off, e1, -, x⟩ := u8_at hs hk
    cases e1
    rwa [Nat.zero_add] at x
  exact ⟨g, c, rfl, hb, World.block_lt_of_cell? _ _ (key 0 hl), hf, key⟩

set_option maxRecDepth 100000 in
set_option maxHeartbeats 16000000 in
theorem blanks_any (g : Geo) (at_ : Int) (v : UInt8) (w : World) :
    Calls Try.prog 6 #[gv g, .int .i64 at_, .int .u8 v.toNat] w fun e w' => e = .returned (.bool true) ∧ Below w.heap.size w w' := by
  obtain ⟨z, d, sp, sl, an⟩ := g
  have hb1 := (Below.refl w.heap.size w).alloc (Nat.le_refl _) (.cells #[.int .i64 z, .int .i64 d, .int .i64 sp, .int .i64 sl, .int .i64 an] 23)
  have HB := Lib.hid hb1
  have HG := Lib.hid (Blk.new w 23 #[.int .i64 z, .int .i64 d, .int .i64 sp, .int .i64 sl, .int .i64 an])
  have hrg := Lib.hid (rgeom_any ⟨z, d, sp, sl, an⟩ (w.alloc (.cells #[.int .i64 z, .int .i64 d, .int .i64 sp, .int .i64 sl, .int .i64 an] 23)))
  unfold gv at hrg ⊢
  simp only at hrg ⊢
  clear hb1
  cases hok : okG ⟨z, d, sp, sl, an⟩ with
  | false =>
    rw [hok] at hrg
    clear hok
    go_enter Try.func6, Try.ntmps6
    go_wp2_with (go_at_call 19; go_must (with_reducible refine hrg.out.mono ?_); rintro e w1 ⟨rfl, hB1⟩)
    go_ret
    exact ⟨rfl, HB.out.trans (hB1.mono HB.out.size)⟩
  | true =>
    rw [hok] at hrg
    have HOK := Lib.hid hok
    clear hok
    go_enter Try.func6, Try.ntmps6
    go_wp2_with fail
    ((with_reducible refine hrg.out.mono ?_); rintro e w1 ⟨rfl, hB1⟩)
    have HB1 := Lib.hid (HB.out.trans (hB1.mono HB.out.size))
    have HG1 := Lib.hid (HG.out.below hB1)
    have hby := Lib.hid (rbytes_any ⟨z, d, sp, sl, an⟩ zRec (.slice none 0 0) w1 noM (sl_nil _ _ _ (by simp [maxLen])) (by simp [zRec, noImg]))
    unfold gv rv zRec noImg at hby
    simp only at hby
    obtain ⟨g1, g2, g3⟩ := HG1.out.all
    clear hB1 hrg HB HG
    go_wp2_with fail
    clear g1 g2 g3
    ((with_reducible refine hby.out.mono ?_); rintro e w2 ⟨hU, hB2⟩)
    rcases hU with ⟨-, vb, rfl, ho⟩ | ⟨hbad, -⟩
    case inr => exact absurd (show okR ⟨z, d, sp, sl, an⟩ zRec = false from hbad) (by rw [zRec_ok HOK.out]; simp)
    have ho : OwR w2 noM w1.heap.size 5 vb zeros11 := by rw [← zRec_bytes]; exact ho
    obtain ⟨B, cB, rfl, hBB, hBl, f1, y⟩ := ho.u8row (by simp [zeros11])
    have hzl : zeros11.length = 11 := rfl
    rw [hzl] at ho ⊢
    have HB2 := Lib.hid (HB1.out.trans (hB2.mono HB1.out.size))
    have HG2 := Lib.hid (HG1.out.below hB2)
    have HO2 := Lib.hid ho
    have HF := Lib.hid (And.intro f1 hBl)
    have HY := Lib.hid (show ∀ k, k < 11 → w2.cell? ⟨B, k, none⟩ = some (.int .u8 0) from fun k hk => by
      rw [y k hk]
      match k, hk with
      | 0, _ | 1, _ | 2, _ | 3, _ | 4, _ | 5, _ | 6, _ | 7, _ | 8, _ | 9, _ | 10, _ => rfl)
    have HBB := Lib.hid (show w.heap.size < B from Nat.lt_of_lt_of_le HG1.out.lt hBB)
    clear ho hzl f1 y hBB hBl hby hB2
    go_wp2
    go_loopg [9] 11 (fun gk s9 wr => ∃ k : Nat, s9 = .int .i64 k ∧ k ≤ 11 ∧ 11 - k ≤ gk ∧ wr = w2)
    case atStart => exact ⟨0, rfl, Nat.zero_le _, by omega, rfl⟩
    case round =>
      obtain ⟨k, rfl, hkl, hgk, rfl⟩ := hrel
      by_cases hlt : k < 11
      · have hlt' : (k : Int) < 11 := by omega
        have y1 := HY.out k hlt
        go_wp2
        go_roundg (11 - (k + 1))
        case measure => omega
        case rel => exact ⟨k + 1, by go_num, by omega, by omega, rfl⟩
      · obtain rfl : k = 11 := by omega
        obtain ⟨w0, rfl⟩ : ∃ w0, w0 = wr := ⟨_, rfl⟩
        have hrd := Lib.hid (rread_any ⟨z, d, sp, sl, an⟩ (.slice (some ⟨B, 0, none⟩) 11 cB) zeros11 w0 noM (HO2.out.sl (fun _ _ h => h)) (by simp [zeros11]))
        unfold gv at hrd
        simp only at hrd
        obtain ⟨g1, g2, g3⟩ := HG2.out.all
        have hrz : readR ⟨z, d, sp, sl, an⟩ zeros11 = some zRec := by rw [← zRec_bytes]; exact readR_recB (zRec_ok HOK.out)
        have HRZ := Lib.hid hrz
        clear hrz
        go_wp2_with fail
        clear g1 g2 g3
        ((with_reducible refine hrd.out.mono ?_); rintro e w3 ⟨hU, hB3⟩)
        rcases hU with ⟨hbad, -⟩ | ⟨-, hbad, -⟩ | ⟨-, v5, r5, hr5, rfl, ho5⟩
        · exact absurd hbad (by rw [HOK.out]; simp)
        · exact absurd hbad (by rw [HRZ.out]; simp)
        rw [HRZ.out] at hr5
        injection hr5 with hr5
        subst hr5
        obtain ⟨A5, C5, rfl⟩ := ho5.form
        unfold rv zRec noImg
        simp only [List.length_nil]
        have hbA := (Below.refl w3.heap.size w3).alloc (Nat.le_refl _) (.cells #[.int .i64 0, .int .i64 0, .int .i64 0, .int .i64 0, .int .i64 0, .int .i64 0, .int .i64 0, .slice A5 0 C5] 28)
        have hb03 := hB3.trans (hbA.mono hB3.size)
        have HB3 := Lib.hid (HB2.out.trans (hb03.mono HB2.out.size))
        have HG3 := Lib.hid (HG2.out.below hb03)
        have HO3 := Lib.hid (HO2.out.below hb03)
        have HQ3 := Lib.hid (Blk.new w3 28 #[.int .i64 0, .int .i64 0, .int .i64 0, .int .i64 0, .int .i64 0, .int .i64 0, .int .i64 0, .slice A5 0 C5])
        have HF3 := Lib.hid (show (∀ i, (w3.alloc (.cells #[.int .i64 0, .int .i64 0, .int .i64 0, .int .i64 0, .int .i64 0, .int .i64 0, .int .i64 0, .slice A5 0 C5] 28)).frozen? ⟨B, i, none⟩ = false) ∧ B < w3.heap.size from ⟨fun i => ((bcell hb03).2 B i HF.out.2).trans (HF.out.1 i), Nat.lt_of_lt_of_le HF.out.2 hB3.size⟩)
        have HY3 := Lib.hid (fun k (hk : k < 11) => below_cell hb03 (HY.out k hk))
        obtain ⟨W, hW⟩ : ∃ W, W = w3.alloc (.cells #[.int .i64 0, .int .i64 0, .int .i64 0, .int .i64 0, .int .i64 0, .int .i64 0, .int .i64 0, .slice A5 0 C5] 28) := ⟨_, rfl⟩
        have HWl := Lib.hid (show B < W.heap.size by rw [hW]; have := HF3.out.2; simp; omega)
        have HQB := Lib.hid (show w3.heap.size ≠ B by have := HF3.out.2; omega)
        have hc0' : 0 ≤ IntKind.u64.wrap at_ := by rw [IntKind.wrap_u64]; omega
        obtain ⟨m, hm⟩ : ∃ m : Nat, (IntKind.u64.wrap at_).tmod 10 = (m : Int) := ⟨((IntKind.u64.wrap at_).tmod 10).toNat, (Int.toNat_of_nonneg (Int.tmod_nonneg _ hc0')).symm⟩
        have hml : (m : Int) < 10 := by rw [← hm]; exact Int.tmod_lt_of_pos _ (by omega)
        have hwm : IntKind.i64.wrap (m : Int) = m := by rw [IntKind.wrap_i64]; omega
        have hwm1 : IntKind.i64.wrap (1 + (m : Int)) = 1 + (m : Int) := by rw [IntKind.wrap_i64]; omega
        have hm0 : (0 : Int) ≤ m := by omega
        clear hc0' hbA hb03 hB3 ho5 hrd
        go_upto_region 12 with fail
        rw [← hW] at HB3 HG3 HO3 HQ3 HF3 HY3 ⊢
        clear hW
        have y1 := HY3.out (1 + m) (by omega)
        have f1 := HF3.out.1
        have hWl := HWl.out
        obtain ⟨g1, g2, g3⟩ := HG3.out.all
        have hBw : ¬ B = w.heap.size := by have := HBB.out; omega
        have HB5 := Lib.hid (HB3.out.setCell (p := ⟨B, 1 + m, none⟩) (Nat.le_of_lt HBB.out) (.int .u8 v.toNat))
        have HQ5 := Lib.hid (HQ3.out.far (p := ⟨B, 1 + m, none⟩) HQB.out (.int .u8 v.toNat))
        have HO5 := Lib.hid (HO3.out.setU8 (j := 1 + m) (by simp [zeros11]; omega) v)
        have hrd := Lib.hid (rread_any ⟨z, d, sp, sl, an⟩ (.slice (some ⟨B, 0, none⟩) 11 cB) (zeros11.set (1 + m) v) _ noM (HO5.out.sl (fun _ _ h => h)) (by simp [zeros11]))
        unfold gv at hrd
        simp only at hrd
        go_wp2_with fail
        clear g1 g2 g3 y1 f1 hBw hWl
        ((with_reducible refine hrd.out.mono ?_); rintro e w5 ⟨hU, hB5⟩)
        by_cases hv : v = 0
        · subst hv
          rcases hU with ⟨hbad, -⟩ | ⟨-, hbad, -⟩ | ⟨-, v6, r6, hr6, rfl, ho6⟩
          · exact absurd hbad (by rw [HOK.out]; simp)
          · exact absurd hbad (by rw [show zeros11.set (1 + m) 0 = zeros11 by
              match m, (show m < 10 by omega) with
              | 0, _ | 1, _ | 2, _ | 3, _ | 4, _ | 5, _ | 6, _ | 7, _ | 8, _ | 9, _ => rfl, HRZ.out]; simp)
          obtain ⟨A6, C6, rfl⟩ := ho6.form
          unfold rv
          have hv0 : (((0 : UInt8).toNat : Int) == 0) = true := rfl
          clear ho6 hr6
          have hb56 := hB5.trans (((Below.refl w5.heap.size w5).alloc (Nat.le_refl _) (.cells #[.int .i64 r6.kind, .int .i64 r6.seq, .int .i64 r6.epoch, .int .i64 r6.at_, .int .i64 r6.of_, .int .i64 r6.img.zone, .int .i64 r6.img.what, .slice A6 r6.img.bytes.length C6] 28)).mono hB5.size)
          have HB6 := Lib.hid (HB5.out.trans (hb56.mono HB5.out.size))
          have hQ6 := HQ5.out.below hb56
          have hwk := fun w' => wakes_any w'
          obtain ⟨q1, q2, q3⟩ := hQ6.all
          clear hb56 hQ6
          go_wp2_with (go_at_call 10; go_must (with_reducible refine (hwk _).mono ?_); rintro e w8 ⟨rfl, hB8⟩)
          go_ret
          exact ⟨rfl, HB6.out.trans (hB8.mono HB6.out.size)⟩
        · rcases hU with ⟨hbad, -⟩ | ⟨-, -, rfl⟩ | ⟨-, v6, r6, hr6, -, -⟩
          · exact absurd hbad (by rw [HOK.out]; simp)
          case inr.inr => exact absurd hr6 (by rw [blank_bent HOK.out (by omega) (by omega) hv]; simp)
          unfold zeroR
          have hv0 : ((v.toNat : Int) == 0) = false := beq_eq_false_iff_ne.2 (fun e => hv (UInt8.toNat_inj.1 (by simp; omega)))
          have hb56 := hB5.trans (((Below.refl w5.heap.size w5).alloc (Nat.le_refl _) (.cells #[.int .i64 0, .int .i64 0, .int .i64 0, .int .i64 0, .int .i64 0, .int .i64 0, .int .i64 0, .slice none 0 0] 28)).mono hB5.size)
          have HB6 := Lib.hid (HB5.out.trans (hb56.mono HB5.out.size))
          have hQ6 := HQ5.out.below hb56
          have hwk := fun w' => wakes_any w'
          obtain ⟨q1, q2, q3⟩ := hQ6.all
          clear hb56 hQ6
          go_wp2_with (go_at_call 10; go_must (with_reducible refine (hwk _).mono ?_); rintro e w8 ⟨rfl, hB8⟩)
          go_ret
          exact ⟨rfl, HB6.out.trans (hB8.mono HB6.out.size)⟩
end Go.Proofs.Ytpknhpfbinplgaa
