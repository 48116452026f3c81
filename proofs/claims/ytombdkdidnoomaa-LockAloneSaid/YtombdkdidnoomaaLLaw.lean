/-
Plain law: what the program tells of locks is what the reference tells.
-/
import Derived.Test.YtombdkdidnoomaaLRefR
import Derived.Test.YtombdkdidnoomaaLRefW
import Derived.Test.YtombdkdidnoomaaLRefD
import Derived.Test.YtombdkdidnoomaaLWrite
namespace Go.Proofs.Ytombdkdidnoomaa
open Go.RowKit

theorem lb_hit {l : List Int} {t : Int} (hr : ris l = true) (h : hasI l t = true) : lb l t < l.length ∧ l.getD (lb l t) 0 = t := by
  have hm : t ∈ l := by simpa [hasI] using h
  obtain ⟨j, hj, e⟩ := List.getElem_of_mem hm
  have := search_end' (i := j) (x := t) (Nat.le_of_lt hj) (fun a ha => by
      rw [Lib.getD_lt _ _ (by omega), ← e]
      have := ris_lt hr (i := a) (d := j - a - 1) (by omega)
      simp only [show a + (j - a - 1) + 1 = j by omega] at this
      exact this) (fun a ha hal => by
      have := ris_mono hr j a ha hal
      rw [Lib.getD_lt _ _ hj, e] at this; exact this) (ris_mono hr)
  rw [this.1]
  exact ⟨hj, by rw [Lib.getD_lt _ _ hj, e]⟩
theorem at_lba {l : List Lk} {t : Int} (hr : ris (l.map Lk.lba) = true) (h : atB l t = true) (hi : atN l t < l.length) : l[atN l t].lba = t := by
  have := (lb_hit hr h).2
  have hi' : lb (l.map Lk.lba) t < (l.map Lk.lba).length := by rw [List.length_map]; exact hi
  rw [Lib.getD_lt _ _ hi', List.getElem_map] at this
  exact this
theorem set_mid {l : List Lk} {i : Nat} {x y : Lk} (hi : i ≤ l.length) : (l.take i ++ [x] ++ l.drop i).set i y = l.take i ++ [y] ++ l.drop i := by
  have hl : (l.take i).length = i := by rw [List.length_take]; omega
  rw [List.append_assoc, List.set_append_right _ _ (by omega), hl, Nat.sub_self]
  simp
theorem set_at {l : List Lk} {i : Nat} {y : Lk} (hi : i < l.length) : l.set i y = l.take i ++ [y] ++ l.drop (i + 1) := by
  rw [List.set_eq_take_append_cons_drop, if_pos hi]; simp
theorem same_at {l : List Lk} {i : Nat} (hi : i < l.length) : l = l.take i ++ [l[i]] ++ l.drop (i + 1) := by
  rw [← set_at hi]; simp
theorem get_mid {l : List Lk} {i : Nat} {x : Lk} (hi : i ≤ l.length) : (l.take i ++ [x] ++ l.drop i).getD i lk0 = x := by
  have hl : (l.take i).length = i := by rw [List.length_take]; omega
  rw [List.getD_eq_getElem?_getD, List.append_assoc, List.getElem?_append_right (by omega), hl, Nat.sub_self]
  rfl
theorem oneL_writer {x : Lk} (h : oneL x = true) : -1 ≤ x.writer := by
  simp only [oneL, Bool.and_eq_true, decide_eq_true_eq] at h; exact h.1.2
theorem hasI_len {l : List Int} {x : Int} (h : hasI l x = false) : (putI l x).length = l.length + 1 := by
  have := lb_le l x
  unfold putI insI
  rw [if_neg (by rw [h]; simp)]
  simp; omega

theorem read_law {l : List Lk} {id lba : Int} (hok : okL l = true) (h0 : 0 ≤ id) (h1 : 0 ≤ lba) : readL l id lba = rRead l id lba := by
  have hr := okL_ris' hok
  unfold readL rRead
  rw [if_neg (by rw [hok]; simp; omega)]
  cases hB : atB l lba with
  | false =>
    by_cases hf : 64 ≤ l.length
    · simp [hf]
    · rw [if_neg (fun h => hf h.2), if_pos rfl, if_neg hf]
      have hn := atN_le l lba
      have e : nxtL l lba = l.take (atN l lba) ++ [⟨lba, [], -1⟩] ++ l.drop (atN l lba) := by unfold nxtL; rw [if_neg (by rw [hB]; simp)]
      unfold readR
      rw [e, get_mid hn]
      have hid : ¬ (-1 : Int) = id := by omega
      simp only [ne_eq, not_true_eq_false, false_and, if_false, hid, false_or]
      rw [if_neg (by simp [hasI]), if_neg (by simp), set_mid hn]
      simp [insI, lb]
  | true =>
    have hi := atB_lt hr hB
    rw [if_neg (fun h => by cases h.1), if_neg (by simp)]
    have e : nxtL l lba = l := by unfold nxtL; rw [if_pos hB]
    rw [e]
    unfold readR
    simp only [getD_lk hi]
    have hone := okL_all hok _ (List.getElem_mem hi)
    have hwr := oneL_writer hone
    have h8 := oneL_len hone
    have hlba := at_lba hr hB hi
    generalize hx : l[atN l lba] = x at *
    by_cases hw : 0 ≤ x.writer
    · rw [if_pos hw]
      by_cases hwi : x.writer = id
      · rw [if_neg (fun h => h.2 hwi), if_pos (.inl hwi), if_neg (fun h => h hwi)]
      · rw [if_pos ⟨by omega, hwi⟩, if_pos hwi]
    · have hm : x.writer = -1 := by omega
      rw [if_neg hw, if_neg (fun h => h.1 hm)]
      cases hh : hasI x.reads id with
      | true =>
        rw [if_pos (.inr rfl)]
        have hp : putI x.reads id = x.reads := by unfold putI; rw [if_pos hh]
        rw [hp, if_neg (by omega)]
        have hxe : (⟨lba, x.reads, -1⟩ : Lk) = x := by cases x; simp_all
        rw [hxe, ← hx]
        exact congrArg (fun t => (t, (0 : Int))) (same_at hi)
      | false =>
        rw [if_neg (fun h => h.elim (fun h => by omega) (fun h => by cases h))]
        have hpl := hasI_len hh
        by_cases h9 : 8 ≤ x.reads.length
        · rw [if_pos h9, if_pos (by omega)]
        · rw [if_neg h9, if_neg (by omega), set_at hi]
          have hp : putI x.reads id = insI x.reads id := by unfold putI; rw [if_neg (by rw [hh]; simp)]
          rw [hp, hlba, hm]

theorem any_wo (l : List Int) (n : Int) : (l.any (fun x => x != n) = true) ↔ 0 < (wo l n).length := by
  rw [List.any_eq_true, List.length_pos_iff_exists_mem]
  constructor
  · rintro ⟨x, hx, h⟩; exact ⟨x, List.mem_filter.2 ⟨hx, h⟩⟩
  · rintro ⟨x, hx⟩; exact ⟨x, (List.mem_filter.1 hx).1, (List.mem_filter.1 hx).2⟩
theorem write_law {l : List Lk} {id lba : Int} (hok : okL l = true) (h0 : 0 ≤ id) (h1 : 0 ≤ lba) : writeL l id lba = rWrite l id lba := by
  have hr := okL_ris' hok
  unfold writeL rWrite
  rw [if_neg (by rw [hok]; simp; omega)]
  cases hB : atB l lba with
  | false =>
    by_cases hf : 64 ≤ l.length
    · simp [hf]
    · rw [if_neg (fun h => hf h.2), if_pos rfl, if_neg hf]
      have hn := atN_le l lba
      have e : nxtL l lba = l.take (atN l lba) ++ [⟨lba, [], -1⟩] ++ l.drop (atN l lba) := by unfold nxtL; rw [if_neg (by rw [hB]; simp)]
      unfold writeR
      rw [e, get_mid hn, if_neg (by simp), set_mid hn]
  | true =>
    have hi := atB_lt hr hB
    rw [if_neg (fun h => by cases h.1), if_neg (by simp)]
    have e : nxtL l lba = l := by unfold nxtL; rw [if_pos hB]
    rw [e]
    unfold writeR
    simp only [getD_lk hi]
    have hwr := oneL_writer (okL_all hok _ (List.getElem_mem hi))
    have hlba := at_lba hr hB hi
    generalize hx : l[atN l lba] = x at *
    by_cases hc : (x.writer ≠ -1 ∧ x.writer ≠ id) ∨ x.reads.any (fun y => y != id) = true
    · rw [if_pos hc, if_pos (hc.imp (fun h => ⟨by omega, h.2⟩) (any_wo _ _).1)]
    · rw [if_neg hc, if_neg (fun h => hc (h.imp (fun h => ⟨by omega, h.2⟩) (any_wo _ _).2)), set_at hi, hlba]
theorem drop_law {l : List Lk} {id : Int} (hok : okL l = true) : dropF l id = rDropF l id := by
  unfold dropF rDropF
  have e : l.map (dropK id) = l.map (rDropK id) := rfl
  rw [e]
  refine List.filter_congr fun x hx => ?_
  obtain ⟨y, hy, rfl⟩ := List.mem_map.1 hx
  have hwr := oneL_writer (okL_all hok y hy)
  have hw : (rDropK id y).writer = -1 ∨ 0 ≤ (rDropK id y).writer := by
    unfold rDropK
    simp only
    split <;> omega
  unfold liveK rLive
  rcases hw with h | h
  · rw [h, decide_eq_false (show ¬ (0 : Int) ≤ -1 by omega), Bool.false_or]; simp
  · rw [decide_eq_true h, Bool.true_or]
    have : ((rDropK id y).writer != -1) = true := by simp; omega
    rw [this, Bool.or_true]
end Go.Proofs.Ytombdkdidnoomaa
