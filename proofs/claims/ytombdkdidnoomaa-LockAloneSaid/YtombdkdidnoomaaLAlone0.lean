/-
Plain law: who writes a block has it alone.
-/
import Derived.Test.YtombdkdidnoomaaLAgain0
namespace Go.Proofs.Ytombdkdidnoomaa
open Go.RowKit

/-- Right locks of the first seven blocks, of the first five who ask. -/
def InvL (l : List Lk) : Prop := okL l = true ∧ ∀ x ∈ l, x.lba < 7 ∧ ∀ z ∈ x.reads, z < 5
theorem InvL.nil : InvL [] := ⟨by decide, fun x h => by cases h⟩
theorem ris_ge {l : List Int} (h : ris l = true) : ∀ i (hi : i < l.length), (i : Int) ≤ l[i]
  | 0, hi => by have := ris_get0 h hi; omega
  | i + 1, hi => by have h1 := ris_ge h i (by omega); have h2 := ris_adj h hi; omega
theorem ris_bound {l : List Int} {N : Nat} (h : ris l = true) (hb : ∀ x ∈ l, x < N) : l.length ≤ N := by
  rcases Nat.eq_zero_or_pos l.length with h0 | h0
  · omega
  · have h1 := ris_ge h (l.length - 1) (by omega)
    have h2 := hb _ (List.getElem_mem (show l.length - 1 < l.length by omega))
    omega
theorem InvL.len {l : List Lk} (h : InvL l) : l.length ≤ 7 := by
  have := ris_bound (N := 7) (okL_ris' h.1) (fun x hx => by
    obtain ⟨y, hy, rfl⟩ := List.mem_map.1 hx
    have := (h.2 y hy).1; omega)
  simpa using this
theorem InvL.rd {l : List Lk} (h : InvL l) {x : Lk} (hx : x ∈ l) : x.reads.length ≤ 5 :=
  ris_bound (N := 5) (oneL_ris (okL_all h.1 x hx)) (fun z hz => by have := (h.2 x hx).2 z hz; omega)
theorem InvL.bd {l : List Lk} (h : InvL l) : BdL l := fun x hx => by have := (h.2 x hx).1; show x.lba ≤ 9223372036854775807; omega

/-- Does another one have it? -/
def othK (x : Lk) (id : Int) (rd : Bool) : Bool := (decide (0 ≤ x.writer) && x.writer != id) || (rd && x.reads.any fun z => z != id)
def oth (l : List Lk) (id t : Int) (rd : Bool) : Bool := l.any fun x => x.lba == t && othK x id rd
theorem oth_at {l : List Lk} {id t : Int} {rd : Bool} (hr : ris (l.map Lk.lba) = true) (hB : atB l t = true) (hi : atN l t < l.length) : oth l id t rd = othK l[atN l t] id rd := by
  cases ho : othK l[atN l t] id rd with
  | true =>
    unfold oth
    rw [List.any_eq_true]
    exact ⟨_, List.getElem_mem hi, by rw [ho, at_lba hr hB hi]; simp⟩
  | false =>
    unfold oth
    rw [List.any_eq_false]
    intro x hx
    obtain ⟨j, hj, rfl⟩ := List.getElem_of_mem hx
    by_cases he : l[j].lba = t
    · have := (at_of hr hj he).1
      subst this
      rw [ho]; simp
    · have : (l[j].lba == t) = false := by simpa using he
      rw [this]; simp
theorem oth_no {l : List Lk} {id t : Int} {rd : Bool} (hB : atB l t = false) : oth l id t rd = false := by
  unfold oth
  rw [List.any_eq_false]
  intro x hx
  have hne : ¬ x.lba = t := fun e => by
    have : atB l t = true := by
      show hasI _ _ = true
      unfold hasI
      rw [List.contains_iff_mem]
      exact List.mem_map.2 ⟨x, hx, e⟩
    rw [this] at hB; cases hB
  have : (x.lba == t) = false := by simpa using hne
  rw [this]; simp
theorem putL_inv {l : List Lk} {t : Int} {y : Lk} (h : InvL l) (h0 : 0 ≤ t) (h7 : t < 7) (hy : y.lba = t) (hone : oneL y = true) (hrd : ∀ z ∈ y.reads, z < 5) : InvL (putL l t y) := by
  refine ⟨putL_ok h.1 h0 (.inr (by have := h.len; omega)) hy hone, fun x hx => ?_⟩
  unfold putL at hx
  rcases List.mem_or_eq_of_mem_set hx with h1 | rfl
  · rcases nxtL_mem h1 with h2 | rfl
    · exact h.2 x h2
    · exact ⟨h7, fun z hz => by simp at hz⟩
  · exact ⟨by rw [hy]; exact h7, hrd⟩
theorem nxt_reads {l : List Lk} {t : Int} (h : InvL l) {x : Lk} (hx : x ∈ nxtL l t) : x.reads.length ≤ 5 := by
  rcases nxtL_mem hx with h1 | rfl
  · exact h.rd h1
  · simp

theorem read_alone {l : List Lk} {id lba : Int} (h : InvL l) (h0 : 0 ≤ id) (h5 : id < 5) (h1 : 0 ≤ lba) (h7 : lba < 7) :
    (oth l id lba false = true ∧ (readL l id lba).2 = 22) ∨ (oth l id lba false = false ∧ (readL l id lba).2 = 0 ∧ InvL (readL l id lba).1) := by
  have hr := okL_ris' h.1
  have hi := nxtL_lt (t := lba) hr
  have hn : ¬ (okL l = false ∨ id < 0 ∨ lba < 0) := by rw [h.1]; simp; omega
  have hf : ¬ (atB l lba = false ∧ 64 ≤ l.length) := by have := h.len; omega
  have he : (readL l id lba) = readR (nxtL l lba) (atN l lba) id := by unfold readL; rw [if_neg hn, if_neg hf]
  have hwb : oth l id lba false = (decide (0 ≤ (nxtL l lba)[atN l lba].writer) && (nxtL l lba)[atN l lba].writer != id) := by
    cases hB : atB l lba with
    | true =>
      have e : nxtL l lba = l := by unfold nxtL; rw [if_pos hB]
      have hi2 := atB_lt hr hB
      rw [oth_at hr hB hi2]
      simp only [e, othK, Bool.false_and, Bool.or_false]
    | false =>
      rw [oth_no hB]
      have e : nxtL l lba = l.take (atN l lba) ++ [⟨lba, [], -1⟩] ++ l.drop (atN l lba) := by unfold nxtL; rw [if_neg (by rw [hB]; simp)]
      have hg := get_mid (x := ⟨lba, [], -1⟩) (atN_le l lba)
      rw [← e, getD_lk hi] at hg
      rw [hg]; rfl
  have hw1 : -1 ≤ (nxtL l lba)[atN l lba].writer := by
    rcases nxtL_mem (List.getElem_mem hi) with h2 | h2
    · exact oneL_writer (okL_all h.1 _ h2)
    · rw [h2]; simp
  have h5r := nxt_reads h (List.getElem_mem hi)
  rw [hwb]
  by_cases hc : (nxtL l lba)[atN l lba].writer ≠ -1 ∧ (nxtL l lba)[atN l lba].writer ≠ id
  · left
    refine ⟨by simp only [Bool.and_eq_true, decide_eq_true_eq, bne_iff_ne]; exact ⟨by omega, hc.2⟩, ?_⟩
    rw [he]; unfold readR; rw [getD_lk hi, if_pos hc]
  · right
    have h0e : (readL l id lba).2 = 0 := by
      rw [he]; unfold readR; rw [getD_lk hi, if_neg hc]
      split
      · rfl
      · rw [if_neg (by omega)]
    refine ⟨?_, h0e, ?_⟩
    · rw [← Bool.not_eq_true]
      simp only [Bool.and_eq_true, decide_eq_true_eq, bne_iff_ne]
      exact fun hh => hc ⟨by omega, hh.2⟩
    · rcases readL_cases h.1 h0 h1 h0e with ⟨e, _⟩ | ⟨y, e, hy, hone, _, _, _, hrd⟩
      · rw [e]; exact h
      · rw [e]
        refine putL_inv h h1 h7 hy hone fun z hz => ?_
        rcases hrd z hz with rfl | ⟨x, hx, hzx⟩
        · exact h5
        · exact (h.2 x hx).2 z hzx
theorem write_alone {l : List Lk} {id lba : Int} (h : InvL l) (h0 : 0 ≤ id) (h5 : id < 5) (h1 : 0 ≤ lba) (h7 : lba < 7) :
    (oth l id lba true = true ∧ (writeL l id lba).2 = 22) ∨ (oth l id lba true = false ∧ (writeL l id lba).2 = 0 ∧ InvL (writeL l id lba).1) := by
  have hr := okL_ris' h.1
  have hi := nxtL_lt (t := lba) hr
  have hn : ¬ (okL l = false ∨ id < 0 ∨ lba < 0) := by rw [h.1]; simp; omega
  have hf : ¬ (atB l lba = false ∧ 64 ≤ l.length) := by have := h.len; omega
  have he : (writeL l id lba) = writeR (nxtL l lba) (atN l lba) id := by unfold writeL; rw [if_neg hn, if_neg hf]
  have hwb : oth l id lba true = othK (nxtL l lba)[atN l lba] id true := by
    cases hB : atB l lba with
    | true =>
      have e : nxtL l lba = l := by unfold nxtL; rw [if_pos hB]
      have hi2 := atB_lt hr hB
      rw [oth_at hr hB hi2]
      simp only [e]
    | false =>
      rw [oth_no hB]
      have e : nxtL l lba = l.take (atN l lba) ++ [⟨lba, [], -1⟩] ++ l.drop (atN l lba) := by unfold nxtL; rw [if_neg (by rw [hB]; simp)]
      have hg := get_mid (x := ⟨lba, [], -1⟩) (atN_le l lba)
      rw [← e, getD_lk hi] at hg
      rw [hg]; rfl
  have hw1 : -1 ≤ (nxtL l lba)[atN l lba].writer := by
    rcases nxtL_mem (List.getElem_mem hi) with h2 | h2
    · exact oneL_writer (okL_all h.1 _ h2)
    · rw [h2]; simp
  rw [hwb]
  have hiff : othK (nxtL l lba)[atN l lba] id true = true ↔ ((nxtL l lba)[atN l lba].writer ≠ -1 ∧ (nxtL l lba)[atN l lba].writer ≠ id) ∨ (nxtL l lba)[atN l lba].reads.any (fun x => x != id) = true := by
    unfold othK
    simp only [Bool.true_and, Bool.or_eq_true, Bool.and_eq_true, decide_eq_true_eq, bne_iff_ne]
    constructor
    · rintro (⟨a, b⟩ | a)
      · exact .inl ⟨by omega, b⟩
      · exact .inr a
    · rintro (⟨a, b⟩ | a)
      · exact .inl ⟨by omega, b⟩
      · exact .inr a
  by_cases hc : ((nxtL l lba)[atN l lba].writer ≠ -1 ∧ (nxtL l lba)[atN l lba].writer ≠ id) ∨ (nxtL l lba)[atN l lba].reads.any (fun x => x != id) = true
  · left
    refine ⟨hiff.2 hc, ?_⟩
    rw [he]; unfold writeR; rw [getD_lk hi, if_pos hc]
  · right
    have h0e : (writeL l id lba).2 = 0 := by rw [he]; unfold writeR; rw [getD_lk hi, if_neg hc]
    refine ⟨?_, h0e, ?_⟩
    · rw [← Bool.not_eq_true]; exact fun hh => hc (hiff.1 hh)
    · rw [(writeL_cases h.1 h0 h1 h0e).1]
      exact putL_inv h h1 h7 rfl (oneL_wr h0) (fun z hz => by simp at hz)

/-- What is dropped is had no more; what is left is right. -/
theorem ris_filter {l : List Int} (p : Int → Bool) (h : ris l = true) : ris (l.filter p) = true := by
  rw [ris_iff] at h ⊢
  exact ⟨fun x hx => h.1 x (List.mem_filter.1 hx).1, h.2.sublist List.filter_sublist⟩
theorem drop_alone {l : List Lk} {id : Int} (h : InvL l) (h0 : 0 ≤ id) : InvL (dropF l id) ∧ ∀ x ∈ dropF l id, x.writer ≠ id ∧ ∀ z ∈ x.reads, z ≠ id := by
  have hr := okL_ris' h.1
  have hmem : ∀ x ∈ dropF l id, ∃ y ∈ l, x = dropK id y ∧ liveK x = true := fun x hx => by
    obtain ⟨h1, h2⟩ := List.mem_filter.1 hx
    obtain ⟨y, hy, rfl⟩ := List.mem_map.1 h1
    exact ⟨y, hy, rfl, h2⟩
  have hsub : ((dropF l id).map Lk.lba).Sublist (l.map Lk.lba) := by
    have h1 : ((dropF l id).map Lk.lba).Sublist ((l.map (dropK id)).map Lk.lba) := List.filter_sublist.map _
    have h2 : (l.map (dropK id)).map Lk.lba = l.map Lk.lba := by simp [dropK]
    rwa [h2] at h1
  refine ⟨⟨?_, fun x hx => ?_⟩, fun x hx => ?_⟩
  · have h1 : (dropF l id).length ≤ 64 := by have := dropF_len l id; have := okL_len h.1; omega
    have h2 : ris ((dropF l id).map Lk.lba) = true := by
      rw [ris_iff] at hr ⊢
      exact ⟨fun x hx => hr.1 x (hsub.subset hx), hr.2.sublist hsub⟩
    have h3 : (dropF l id).all oneL = true := by
      rw [List.all_eq_true]
      intro x hx
      obtain ⟨y, hy, rfl, hlv⟩ := hmem x hx
      have hone := okL_all h.1 y hy
      have hw := oneL_writer hone
      have hx2 := hone
      simp only [oneL, Bool.and_eq_true, decide_eq_true_eq] at hx2
      obtain ⟨⟨⟨a1, a2⟩, a3⟩, a4⟩ := hx2
      have hlen := List.length_filter_le (fun z => !(z == id)) y.reads
      unfold liveK dropK at hlv
      unfold oneL dropK
      simp only [Bool.and_eq_true, decide_eq_true_eq]
      simp only [Bool.or_eq_true, decide_eq_true_eq, bne_iff_ne] at hlv
      refine ⟨⟨⟨by omega, ris_filter _ a2⟩, by split <;> omega⟩, ?_⟩
      by_cases hyw : y.writer = id
      · rw [if_pos hyw] at hlv ⊢
        have h9 : 0 < (y.reads.filter fun z => !(z == id)).length := hlv.elim (fun h9 => h9) (fun h9 => absurd rfl h9)
        rw [decide_eq_true h9]; rfl
      · rw [if_neg hyw] at hlv ⊢
        by_cases hy0 : y.writer = -1
        · have h9 : 0 < (y.reads.filter fun z => !(z == id)).length := hlv.elim (fun h9 => h9) (fun h9 => absurd hy0 h9)
          rw [decide_eq_true h9, hy0]; rfl
        · have hb : (y.writer != -1) = true := by simpa using hy0
          rw [hb] at a4 ⊢
          have : y.reads.length = 0 := by
            by_cases h9 : 0 < y.reads.length
            · rw [decide_eq_true h9] at a4; cases a4
            · omega
          have h9 : ¬ 0 < (y.reads.filter fun z => !(z == id)).length := by omega
          rw [decide_eq_false h9]; rfl
    simp only [okL, h2, h3, decide_eq_true h1, Bool.and_self]
  · obtain ⟨y, hy, rfl, _⟩ := hmem x hx
    exact ⟨(h.2 y hy).1, fun z hz => (h.2 y hy).2 z (List.mem_filter.1 hz).1⟩
  · obtain ⟨y, hy, rfl, _⟩ := hmem x hx
    refine ⟨?_, fun z hz => ?_⟩
    · unfold dropK
      simp only
      split
      · omega
      · assumption
    · have := (List.mem_filter.1 hz).2
      simpa using this
end Go.Proofs.Ytombdkdidnoomaa
