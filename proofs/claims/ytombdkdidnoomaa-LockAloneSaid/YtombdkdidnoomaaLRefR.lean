/-
The reference's LockRead.
-/
import Derived.Test.YtombdkdidnoomaaLWith
namespace Go.Proofs.Ytombdkdidnoomaa
open Go.RowKit
attribute [local go_sem ↓] Go.wp_at_zero Go.wp_at_succ

def rRead (l : List Lk) (id lba : Int) : List Lk × Int :=
  if atB l lba = false then (if 64 ≤ l.length then ([], 2) else (l.take (atN l lba) ++ [⟨lba, [id], -1⟩] ++ l.drop (atN l lba), 0))
  else if 0 ≤ (l.getD (atN l lba) lk0).writer then (if (l.getD (atN l lba) lk0).writer ≠ id then ([], 22) else (l, 0))
  else if 8 < (putI (l.getD (atN l lba) lk0).reads id).length then ([], 2)
  else (l.take (atN l lba) ++ [⟨lba, putI (l.getD (atN l lba) lk0).reads id, -1⟩] ++ l.drop (atN l lba + 1), 0)
theorem putI_len (l : List Int) (x : Int) : (putI l x).length ≤ l.length + 1 := by
  have := lb_le l x
  unfold putI insI
  split
  · omega
  · simp; omega

set_option maxHeartbeats 8000000 in
theorem rread_any (v : Value) (l : List Lk) (id lba : Int) (w : World) (M : Ms) (h : SlR w M v l) (hok : okL l = true) :
    Calls Try.prog 16 #[v, .int .i64 id, .int .i64 lba] w fun e w' => ∃ r, e = .returned (.tuple #[r, .int .i64 (rRead l id lba).2]) ∧ SlR w' noM r (rRead l id lba).1 ∧ Below w.heap.size w w' := by
  have hl := okL_len hok
  have hb : ∀ x ∈ l, x.reads.length ≤ 1000000000 := fun x hx => by have := oneL_len (okL_all hok x hx); omega
  have hat := Lib.hid (rat_any v l lba w M h (okL_ris' hok) (by omega))
  obtain ⟨a, c, rfl⟩ := h.form
  have H := Lib.hid h
  have HBL := Lib.hid hb
  have HR := Lib.hid (okL_ris' hok)
  have HA := Lib.hid (okL_all hok)
  have hN := Lib.hid (atN_le l lba)
  clear h hb hok
  cases hB : atB l lba with
  | false =>
    rw [hB] at hat
    by_cases hf : 64 ≤ l.length
    · have hE := Lib.hid (show rRead l id lba = ([], 2) by simp only [rRead]; rw [if_pos hB, if_pos hf])
      have hf' : (64 : Int) ≤ l.length := by omega
      clear hB hf
      rw [hE.out]
      go_enter Try.func16, Try.ntmps16
      go_wp2_with (go_at_call 37; go_must (refine hat.out.mono ?_); rintro e w2 ⟨rfl, hB2⟩)
      go_ret2
      exact ⟨_, rfl, sl_nil _ _ _ (by simp [maxLen]), hB2⟩
    · have hE := Lib.hid (show rRead l id lba = (l.take (atN l lba) ++ [⟨lba, [id], -1⟩] ++ l.drop (atN l lba), 0) by simp only [rRead]; rw [if_pos hB, if_neg hf])
      have hf' : ¬ (64 : Int) ≤ l.length := by omega
      clear hB hf
      rw [hE.out]
      go_enter Try.func16, Try.ntmps16
      go_wp2_with (go_at_call 37; go_must (refine hat.out.mono ?_); rintro e w2 ⟨rfl, hB2⟩; have HB2 := Lib.hid hB2; clear hB2)
      have hb3 := HB2.out.alloc HB2.out.size (.cells #[.int .i64 id] 3)
      have hblk := Blk.new w2 3 #[.int .i64 id]
      have hw := Lib.hid (with_any (.slice a l.length c) (.slice (some ⟨w2.heap.size, 0, none⟩) 1 1) l (atN l lba) false ⟨lba, [id], -1⟩ _ M (H.out.mono (Keep.below hb3)) (SlR.one (M := noM) (x := id) hblk rfl (fun h => h)) hN.out (by simp) (by omega) HBL.out)
      have HB3 := Lib.hid hb3
      clear hb3 hblk
      ((with_reducible refine hw.out.mono ?_); rintro e w4 ⟨r4, rfl, ho4, hB4⟩)
      have hfin := Lib.hid (And.intro (ho4.sl (M := noM) (fun b _ h => h)) (HB3.out.trans (hB4.mono HB3.out.size)))
      clear ho4 hB4 hw
      go_wp2
      go_ret2
      exact ⟨_, rfl, hfin.out.1, hfin.out.2⟩
  | true =>
    rw [hB] at hat
    have hi := atB_lt HR.out hB
    have hi' : ((atN l lba : Nat) : Int) < l.length := by omega
    have HP := Lib.hid (show rRead l id lba = if 0 ≤ l[atN l lba].writer then (if l[atN l lba].writer ≠ id then ([], 22) else (l, 0)) else if 8 < (putI l[atN l lba].reads id).length then ([], 2)
        else (l.take (atN l lba) ++ [⟨lba, putI l[atN l lba].reads id, -1⟩] ++ l.drop (atN l lba + 1), 0) by
      simp only [rRead, getD_lk hi]; rw [if_neg (by rw [hB]; simp)])
    have HX := Lib.hid (show ris l[atN l lba].reads = true ∧ l[atN l lba].reads.length ≤ 8 from ⟨oneL_ris (HA.out _ (List.getElem_mem hi)), oneL_len (HA.out _ (List.getElem_mem hi))⟩)
    have htw := Lib.hid (fun W (hB : Below w.heap.size w W) => twinL_any (.slice a l.length c) l W M noM (H.out.mono (Keep.below hB)) (noMok _) (by omega) HBL.out)
    clear hB HR HA
    generalize hi0 : atN l lba = i at *
    clear hi0
    have hwith := Lib.hid (fun W xa (hB : Below w.heap.size w W) (x : Lk) hx => with_any (.slice a l.length c) xa l i true x W M (H.out.mono (Keep.below hB)) hx hN.out (fun _ => hi) (by omega) HBL.out)
    by_cases hw0 : 0 ≤ l[i].writer
    · by_cases hw1 : l[i].writer = id
      · have hE := Lib.hid (show rRead l id lba = (l, 0) by rw [HP.out, if_pos hw0, if_neg (by simp [hw1])])
        have hw1' : (l[i].writer != id) = false := by simp [hw1]
        clear hw1
        rw [hE.out]
        go_enter Try.func16, Try.ntmps16
        go_wp2_with fail
        ((with_reducible refine hat.out.mono ?_); rintro e w2 ⟨rfl, hB2⟩)
        obtain ⟨b1, o1, A1, C1, rfl, -, x1, y1, z1, s1⟩ := lk_at (H.out.mono (Keep.below hB2)) hi
        have HB2 := Lib.hid hB2
        have hb3 := Lib.hid (hB2.alloc hB2.size (.cells #[.int .i64 l[i].lba, .slice A1 l[i].reads.length C1, .int .i64 l[i].writer] 39))
        clear hB2 s1
        go_wp2_with (go_at_call 7; go_must (refine (htw.out _ hb3.out).mono ?_); rintro e w4 ⟨r4, rfl, ho4, hB4⟩)
        go_ret2
        exact ⟨_, rfl, ho4.sl (fun b _ h => h), hb3.out.trans (hB4.mono hb3.out.size)⟩
      · have hE := Lib.hid (show rRead l id lba = ([], 22) by rw [HP.out, if_pos hw0, if_pos hw1])
        have hw1' : (l[i].writer != id) = true := by simpa using hw1
        clear hw1
        rw [hE.out]
        go_enter Try.func16, Try.ntmps16
        go_wp2_with fail
        ((with_reducible refine hat.out.mono ?_); rintro e w2 ⟨rfl, hB2⟩)
        obtain ⟨b1, o1, A1, C1, rfl, -, x1, y1, z1, s1⟩ := lk_at (H.out.mono (Keep.below hB2)) hi
        have hb3 := Lib.hid (hB2.alloc hB2.size (.cells #[.int .i64 l[i].lba, .slice A1 l[i].reads.length C1, .int .i64 l[i].writer] 39))
        clear hB2 s1
        go_wp2
        go_ret2
        exact ⟨_, rfl, sl_nil _ _ _ (by simp [maxLen]), hb3.out⟩
    · have HP2 := Lib.hid (show rRead l id lba = if 8 < (putI l[i].reads id).length then ([], 2) else (l.take i ++ [⟨lba, putI l[i].reads id, -1⟩] ++ l.drop (i + 1), 0) by rw [HP.out, if_neg hw0])
      have hw0' : decide ((0 : Int) ≤ l[i].writer) = false := decide_eq_false hw0
      clear HP
      by_cases h8 : 8 < (putI l[i].reads id).length
      · have hE := Lib.hid (show rRead l id lba = ([], 2) by rw [HP2.out, if_pos h8])
        have h8' : (8 : Int) < (putI l[i].reads id).length := by omega
        rw [hE.out]
        go_enter Try.func16, Try.ntmps16
        go_wp2_with fail
        ((with_reducible refine hat.out.mono ?_); rintro e w2 ⟨rfl, hB2⟩)
        obtain ⟨b1, o1, A1, C1, rfl, -, x1, y1, z1, s1⟩ := lk_at (H.out.mono (Keep.below hB2)) hi
        have hb3 := hB2.alloc hB2.size (.cells #[.int .i64 l[i].lba, .slice A1 l[i].reads.length C1, .int .i64 l[i].writer] 39)
        have hpt := Lib.hid (rput_any _ l[i].reads id (w2.alloc (.cells #[.int .i64 l[i].lba, .slice A1 l[i].reads.length C1, .int .i64 l[i].writer] 39)) M (s1.mono (Keep.below ((Below.refl w2.heap.size w2).alloc (Nat.le_refl _) _))) HX.out.1 (by have := HX.out.2; omega))
        have HB3 := Lib.hid hb3
        clear hB2 s1 hb3
        go_wp2_with (go_at_call 39; go_must (refine hpt.out.mono ?_); rintro e w4 ⟨r4, rfl, hs4, hB4⟩; obtain ⟨A4, C4, rfl⟩ := hs4.form)
        go_ret2
        exact ⟨_, rfl, sl_nil _ _ _ (by simp [maxLen]), HB3.out.trans (hB4.mono HB3.out.size)⟩
      · have hE := Lib.hid (show rRead l id lba = (l.take i ++ [⟨lba, putI l[i].reads id, -1⟩] ++ l.drop (i + 1), 0) by rw [HP2.out, if_neg h8])
        have h8' : ¬ (8 : Int) < (putI l[i].reads id).length := by omega
        rw [hE.out]
        go_enter Try.func16, Try.ntmps16
        go_wp2_with fail
        ((with_reducible refine hat.out.mono ?_); rintro e w2 ⟨rfl, hB2⟩)
        obtain ⟨b1, o1, A1, C1, rfl, -, x1, y1, z1, s1⟩ := lk_at (H.out.mono (Keep.below hB2)) hi
        have hb3 := hB2.alloc hB2.size (.cells #[.int .i64 l[i].lba, .slice A1 l[i].reads.length C1, .int .i64 l[i].writer] 39)
        have hpt := Lib.hid (rput_any _ l[i].reads id (w2.alloc (.cells #[.int .i64 l[i].lba, .slice A1 l[i].reads.length C1, .int .i64 l[i].writer] 39)) M (s1.mono (Keep.below ((Below.refl w2.heap.size w2).alloc (Nat.le_refl _) _))) HX.out.1 (by have := HX.out.2; omega))
        have HB3 := Lib.hid hb3
        clear hB2 s1 hb3
        go_wp2_with (go_at_call 39; go_must (refine hpt.out.mono ?_); rintro e w4 ⟨r4, rfl, hs4, hB4⟩; obtain ⟨A4, C4, rfl⟩ := hs4.form; have HB4 := Lib.hid (HB3.out.trans (hB4.mono HB3.out.size)); have HT := Lib.hid (twinIO_any _ (putI l[i].reads id) w4 noM noM hs4 (by omega)); clear hs4 hB4)
        ((with_reducible refine HT.out.mono ?_); rintro e w5 ⟨r5, rfl, ho5, hB5⟩)
        obtain ⟨A5, C5, rfl⟩ := ho5.form
        have HB5 := Lib.hid (HB4.out.trans (hB5.mono HB4.out.size))
        have HW := Lib.hid (hwith.out w5 (.slice A5 (putI l[i].reads id).length C5) HB5.out ⟨lba, putI l[i].reads id, -1⟩ (ho5.sl (fun b _ h => h)))
        clear ho5 hB5
        simp only at HW
        go_wp2_with fail
        ((with_reducible refine HW.out.mono ?_); rintro e w6 ⟨r6, rfl, ho6, hB6⟩)
        go_wp2
        go_ret2
        exact ⟨_, rfl, ho6.sl (fun b _ h => h), HB5.out.trans (hB6.mono HB5.out.size)⟩
end Go.Proofs.Ytombdkdidnoomaa
