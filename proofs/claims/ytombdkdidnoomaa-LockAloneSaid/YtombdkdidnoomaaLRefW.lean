/-
The reference's LockWrite.
-/
import Derived.Test.YtombdkdidnoomaaLWith
namespace Go.Proofs.Ytombdkdidnoomaa
open Go.RowKit
attribute [local go_sem ↓] Go.wp_at_zero Go.wp_at_succ

def rWrite (l : List Lk) (id lba : Int) : List Lk × Int :=
  if atB l lba = false then (if 64 ≤ l.length then ([], 2) else (l.take (atN l lba) ++ [⟨lba, [], id⟩] ++ l.drop (atN l lba), 0))
  else if 0 ≤ (l.getD (atN l lba) lk0).writer ∧ (l.getD (atN l lba) lk0).writer ≠ id ∨ 0 < (wo (l.getD (atN l lba) lk0).reads id).length then ([], 22)
  else (l.take (atN l lba) ++ [⟨lba, [], id⟩] ++ l.drop (atN l lba + 1), 0)

set_option maxHeartbeats 8000000 in
theorem rwrite_any (v : Value) (l : List Lk) (id lba : Int) (w : World) (M : Ms) (h : SlR w M v l) (hok : okL l = true) :
    Calls Try.prog 17 #[v, .int .i64 id, .int .i64 lba] w fun e w' => ∃ r, e = .returned (.tuple #[r, .int .i64 (rWrite l id lba).2]) ∧ SlR w' noM r (rWrite l id lba).1 ∧ Below w.heap.size w w' := by
  have hl := okL_len hok
  have hb : ∀ x ∈ l, x.reads.length ≤ 1000000000 := fun x hx => by have := oneL_len (okL_all hok x hx); omega
  have hat := Lib.hid (rat_any v l lba w M h (okL_ris' hok) (by omega))
  obtain ⟨a, c, rfl⟩ := h.form
  have H := Lib.hid h
  have HBL := Lib.hid hb
  have HR := Lib.hid (okL_ris' hok)
  have HA := Lib.hid (okL_all hok)
  have hN := Lib.hid (atN_le l lba)
  have Hnil := Lib.hid (show ∀ W, SlR W noM (.slice none 0 0) ([] : List Int) from fun W => sl_nil W noM 0 (by simp [maxLen]))
  clear h hb hok
  cases hB : atB l lba with
  | false =>
    rw [hB] at hat
    by_cases hf : 64 ≤ l.length
    · have hE := Lib.hid (show rWrite l id lba = ([], 2) by simp only [rWrite]; rw [if_pos hB, if_pos hf])
      have hf' : (64 : Int) ≤ l.length := by omega
      clear hB hf
      rw [hE.out]
      go_enter Try.func17, Try.ntmps17
      go_wp2_with (go_at_call 37; go_must (refine hat.out.mono ?_); rintro e w2 ⟨rfl, hB2⟩)
      go_ret2
      exact ⟨_, rfl, sl_nil _ _ _ (by simp [maxLen]), hB2⟩
    · have hE := Lib.hid (show rWrite l id lba = (l.take (atN l lba) ++ [⟨lba, [], id⟩] ++ l.drop (atN l lba), 0) by simp only [rWrite]; rw [if_pos hB, if_neg hf])
      have hf' : ¬ (64 : Int) ≤ l.length := by omega
      clear hB hf
      rw [hE.out]
      go_enter Try.func17, Try.ntmps17
      go_wp2_with (go_at_call 37; go_must (refine hat.out.mono ?_); rintro e w2 ⟨rfl, hB2⟩; have HB2 := Lib.hid hB2; clear hB2)
      have hw := Lib.hid (with_any (.slice a l.length c) (.slice none 0 0) l (atN l lba) false ⟨lba, [], id⟩ w2 M (H.out.mono (Keep.below HB2.out)) (Hnil.out _) hN.out (by simp) (by omega) HBL.out)
      simp only at hw
      ((with_reducible refine hw.out.mono ?_); rintro e w4 ⟨r4, rfl, ho4, hB4⟩)
      have hfin := Lib.hid (And.intro (ho4.sl (M := noM) (fun b _ h => h)) (HB2.out.trans (hB4.mono HB2.out.size)))
      clear ho4 hB4 hw
      go_wp2
      go_ret2
      exact ⟨_, rfl, hfin.out.1, hfin.out.2⟩
  | true =>
    rw [hB] at hat
    have hi := atB_lt HR.out hB
    have hi' : ((atN l lba : Nat) : Int) < l.length := by omega
    have HP := Lib.hid (show rWrite l id lba = if 0 ≤ l[atN l lba].writer ∧ l[atN l lba].writer ≠ id ∨ 0 < (wo l[atN l lba].reads id).length then ([], 22)
        else (l.take (atN l lba) ++ [⟨lba, [], id⟩] ++ l.drop (atN l lba + 1), 0) by
      simp only [rWrite, getD_lk hi]; rw [if_neg (by rw [hB]; simp)])
    have HX := Lib.hid (show l[atN l lba].reads.length ≤ 8 from oneL_len (HA.out _ (List.getElem_mem hi)))
    clear hB HR HA
    generalize hi0 : atN l lba = i at *
    clear hi0
    have hwith := Lib.hid (fun W (hB : Below w.heap.size w W) => with_any (.slice a l.length c) (.slice none 0 0) l i true ⟨lba, [], id⟩ W M (H.out.mono (Keep.below hB)) (Hnil.out _) hN.out (fun _ => hi) (by omega) HBL.out)
    simp only at hwith
    have hwl := wo_length l[i].reads id
    have hwl8 : (wo l[i].reads id).length ≤ 8 := Nat.le_trans hwl HX.out
    by_cases hw0 : 0 ≤ l[i].writer
    · by_cases hw1 : l[i].writer = id
      · have hw1' : (l[i].writer != id) = false := by simp [hw1]
        have Hw1 := Lib.hid hw1
        clear hw1
        by_cases hz : 0 < (wo l[i].reads id).length
        · have hE := Lib.hid (show rWrite l id lba = ([], 22) by rw [HP.out, if_pos (.inr hz)])
          have hz' : (0 : Int) < (wo l[i].reads id).length := by omega
          rw [hE.out]
          go_enter Try.func17, Try.ntmps17
          go_wp2_with fail
          ((with_reducible refine hat.out.mono ?_); rintro e w2 ⟨rfl, hB2⟩)
          obtain ⟨b1, o1, A1, C1, rfl, -, x1, y1, z1, s1⟩ := lk_at (H.out.mono (Keep.below hB2)) hi
          have HB2 := Lib.hid hB2
          have hwo := Lib.hid (without_any _ l[i].reads id w2 M noM s1 (noMok _) (by have := HX.out; omega))
          clear hB2 s1
          go_wp2_with (go_at_call 36; go_must (refine hwo.out.mono ?_); rintro e w4 ⟨r4, rfl, hs4, hB4⟩; obtain ⟨A4, C4, rfl⟩ := hs4.form; have HB4 := Lib.hid (HB2.out.trans (hB4.mono HB2.out.size)); clear hs4 hB4)
          go_ret2
          exact ⟨_, rfl, sl_nil _ _ _ (by simp [maxLen]), HB4.out⟩
        · have hE := Lib.hid (show rWrite l id lba = (l.take i ++ [⟨lba, [], id⟩] ++ l.drop (i + 1), 0) by rw [HP.out, if_neg (fun h => h.elim (fun h => h.2 Hw1.out) hz)])
          have hz' : ¬ (0 : Int) < (wo l[i].reads id).length := by omega
          rw [hE.out]
          go_enter Try.func17, Try.ntmps17
          go_wp2_with fail
          ((with_reducible refine hat.out.mono ?_); rintro e w2 ⟨rfl, hB2⟩)
          obtain ⟨b1, o1, A1, C1, rfl, -, x1, y1, z1, s1⟩ := lk_at (H.out.mono (Keep.below hB2)) hi
          have HB2 := Lib.hid hB2
          have hwo := Lib.hid (without_any _ l[i].reads id w2 M noM s1 (noMok _) (by have := HX.out; omega))
          clear hB2 s1
          go_wp2_with (go_at_call 36; go_must (refine hwo.out.mono ?_); rintro e w4 ⟨r4, rfl, hs4, hB4⟩; obtain ⟨A4, C4, rfl⟩ := hs4.form; have HB4 := Lib.hid (HB2.out.trans (hB4.mono HB2.out.size)); clear hs4 hB4)
          ((with_reducible refine (hwith.out w4 HB4.out).mono ?_); rintro e w6 ⟨r6, rfl, ho6, hB6⟩)
          have hfin := Lib.hid (And.intro (ho6.sl (M := noM) (fun b _ h => h)) (HB4.out.trans (hB6.mono HB4.out.size)))
          clear ho6 hB6
          go_wp2
          go_ret2
          exact ⟨_, rfl, hfin.out.1, hfin.out.2⟩
      · have hE := Lib.hid (show rWrite l id lba = ([], 22) by rw [HP.out, if_pos (.inl ⟨hw0, hw1⟩)])
        have hw1' : (l[i].writer != id) = true := by simpa using hw1
        clear hw1
        rw [hE.out]
        go_enter Try.func17, Try.ntmps17
        go_wp2_with fail
        ((with_reducible refine hat.out.mono ?_); rintro e w2 ⟨rfl, hB2⟩)
        obtain ⟨b1, o1, A1, C1, rfl, -, x1, y1, z1, s1⟩ := lk_at (H.out.mono (Keep.below hB2)) hi
        have HB2 := Lib.hid hB2
        clear hB2 s1
        go_wp2
        go_ret2
        exact ⟨_, rfl, sl_nil _ _ _ (by simp [maxLen]), HB2.out⟩
    · have hw0' : decide ((0 : Int) ≤ l[i].writer) = false := decide_eq_false hw0
      by_cases hz : 0 < (wo l[i].reads id).length
      · have hE := Lib.hid (show rWrite l id lba = ([], 22) by rw [HP.out, if_pos (.inr hz)])
        have hz' : (0 : Int) < (wo l[i].reads id).length := by omega
        rw [hE.out]
        go_enter Try.func17, Try.ntmps17
        go_wp2_with fail
        ((with_reducible refine hat.out.mono ?_); rintro e w2 ⟨rfl, hB2⟩)
        obtain ⟨b1, o1, A1, C1, rfl, -, x1, y1, z1, s1⟩ := lk_at (H.out.mono (Keep.below hB2)) hi
        have HB2 := Lib.hid hB2
        have hwo := Lib.hid (without_any _ l[i].reads id w2 M noM s1 (noMok _) (by have := HX.out; omega))
        clear hB2 s1
        go_wp2_with (go_at_call 36; go_must (refine hwo.out.mono ?_); rintro e w4 ⟨r4, rfl, hs4, hB4⟩; obtain ⟨A4, C4, rfl⟩ := hs4.form; have HB4 := Lib.hid (HB2.out.trans (hB4.mono HB2.out.size)); clear hs4 hB4)
        go_ret2
        exact ⟨_, rfl, sl_nil _ _ _ (by simp [maxLen]), HB4.out⟩
      · have hE := Lib.hid (show rWrite l id lba = (l.take i ++ [⟨lba, [], id⟩] ++ l.drop (i + 1), 0) by rw [HP.out, if_neg (fun h => h.elim (fun h => hw0 h.1) hz)])
        have hz' : ¬ (0 : Int) < (wo l[i].reads id).length := by omega
        rw [hE.out]
        go_enter Try.func17, Try.ntmps17
        go_wp2_with fail
        ((with_reducible refine hat.out.mono ?_); rintro e w2 ⟨rfl, hB2⟩)
        obtain ⟨b1, o1, A1, C1, rfl, -, x1, y1, z1, s1⟩ := lk_at (H.out.mono (Keep.below hB2)) hi
        have HB2 := Lib.hid hB2
        have hwo := Lib.hid (without_any _ l[i].reads id w2 M noM s1 (noMok _) (by have := HX.out; omega))
        clear hB2 s1
        go_wp2_with (go_at_call 36; go_must (refine hwo.out.mono ?_); rintro e w4 ⟨r4, rfl, hs4, hB4⟩; obtain ⟨A4, C4, rfl⟩ := hs4.form; have HB4 := Lib.hid (HB2.out.trans (hB4.mono HB2.out.size)); clear hs4 hB4)
        ((with_reducible refine (hwith.out w4 HB4.out).mono ?_); rintro e w6 ⟨r6, rfl, ho6, hB6⟩)
        have hfin := Lib.hid (And.intro (ho6.sl (M := noM) (fun b _ h => h)) (HB4.out.trans (hB6.mono HB4.out.size)))
        clear ho6 hB6
        go_wp2
        go_ret2
        exact ⟨_, rfl, hfin.out.1, hfin.out.2⟩
end Go.Proofs.Ytombdkdidnoomaa
