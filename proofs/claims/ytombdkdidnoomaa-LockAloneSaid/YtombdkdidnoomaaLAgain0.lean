/-
Plain law: who has a block may take it again; other blocks stay as they are; locks stay right.
-/
import Derived.Test.YtombdkdidnoomaaLLaw
namespace Go.Proofs.Ytombdkdidnoomaa
open Go.RowKit

theorem risA_iff : ∀ {l : List Int} {p : Int}, risA p l = true ↔ (∀ x ∈ l, p < x) ∧ l.Pairwise (· < ·)
  | [], p => by simp [risA]
  | x :: t, p => by
    have ih := risA_iff (l := t) (p := x)
    simp only [risA, Bool.and_eq_true, decide_eq_true_eq, ih, List.pairwise_cons, List.mem_cons, forall_eq_or_imp]
    constructor
    · rintro ⟨h1, h2, h3⟩; exact ⟨⟨h1, fun y hy => Int.lt_trans h1 (h2 y hy)⟩, h2, h3⟩
    · rintro ⟨⟨h1, _⟩, h2, h3⟩; exact ⟨h1, h2, h3⟩
theorem ris_iff {l : List Int} : ris l = true ↔ (∀ x ∈ l, 0 ≤ x) ∧ l.Pairwise (· < ·) := by
  unfold ris
  rw [risA_iff]
  constructor <;> rintro ⟨h1, h2⟩ <;> exact ⟨fun x hx => by have := h1 x hx; omega, h2⟩
theorem lb_split : ∀ {l : List Int} {t : Int}, l.Pairwise (· < ·) → (∀ x ∈ l.take (lb l t), x < t) ∧ (∀ x ∈ l.drop (lb l t), t ≤ x)
  | [], t, _ => by simp
  | x :: l, t, h => by
    rw [List.pairwise_cons] at h
    obtain ⟨i1, i2⟩ := lb_split (t := t) h.2
    by_cases hx : x < t
    · have e : lb (x :: l) t = lb l t + 1 := by simp [lb, hx]
      rw [e, List.take_succ_cons, List.drop_succ_cons]
      refine ⟨fun y hy => ?_, i2⟩
      rcases List.mem_cons.1 hy with rfl | hy
      · exact hx
      · exact i1 y hy
    · have e : lb (x :: l) t = 0 := by
        unfold lb
        rw [List.countP_eq_zero]
        intro y hy
        rcases List.mem_cons.1 hy with rfl | hy
        · simpa using hx
        · have := h.1 y hy; simp; omega
      rw [e]
      refine ⟨fun y hy => by simp at hy, fun y hy => ?_⟩
      rw [List.drop_zero] at hy
      rcases List.mem_cons.1 hy with rfl | hy
      · omega
      · have := h.1 y hy; omega
theorem ris_insI {l : List Int} {t : Int} (hr : ris l = true) (h0 : 0 ≤ t) (hh : hasI l t = false) : ris (insI l t) = true := by
  rw [ris_iff] at hr ⊢
  obtain ⟨h1, h2⟩ := hr
  obtain ⟨i1, i2⟩ := lb_split (t := t) h2
  have hn : t ∉ l := by intro hm; have : hasI l t = true := by simpa [hasI] using hm
                        rw [this] at hh; cases hh
  have hd : ∀ x ∈ l.drop (lb l t), t < x := fun x hx => by
    have := i2 x hx
    have hne : x ≠ t := fun e => hn (by rw [← e]; exact List.mem_of_mem_drop hx)
    omega
  have hsplit : (l.take (lb l t) ++ l.drop (lb l t)).Pairwise (· < ·) := by rw [List.take_append_drop]; exact h2
  obtain ⟨p1, p2, p3⟩ := List.pairwise_append.1 hsplit
  unfold insI
  refine ⟨fun x hx => ?_, ?_⟩
  · simp only [List.mem_append, List.mem_singleton] at hx
    rcases hx with (hx | rfl) | hx
    · exact h1 x (List.mem_of_mem_take hx)
    · exact h0
    · exact h1 x (List.mem_of_mem_drop hx)
  · rw [List.append_assoc]
    refine List.pairwise_append.2 ⟨p1, List.pairwise_append.2 ⟨List.pairwise_singleton _ _, p2, fun a ha b hb => ?_⟩, fun a ha b hb => ?_⟩
    · simp at ha; subst ha; exact hd b hb
    · rcases List.mem_append.1 hb with hb | hb
      · simp at hb; subst hb; exact i1 a ha
      · exact p3 a ha b hb
theorem hasI_insI (l : List Int) (x : Int) : hasI (insI l x) x = true := by simp [hasI, insI]

/-- A lock of the block in the block's place. -/
def putL (l : List Lk) (t : Int) (y : Lk) : List Lk := (nxtL l t).set (atN l t) y
theorem nxtL_map {l : List Lk} {t : Int} (h0 : 0 ≤ t) (hr : ris (l.map Lk.lba) = true) : ris ((nxtL l t).map Lk.lba) = true := by
  unfold nxtL
  split
  · exact hr
  · rename_i h
    have e : (l.take (atN l t) ++ [(⟨t, [], -1⟩ : Lk)] ++ l.drop (atN l t)).map Lk.lba = insI (l.map Lk.lba) t := by
      simp [insI, atN]
    rw [e]
    exact ris_insI hr h0 (by simpa [atB] using h)
theorem nxtL_at {l : List Lk} {t : Int} (hr : ris (l.map Lk.lba) = true) (hi : atN l t < (nxtL l t).length) : (nxtL l t)[atN l t].lba = t := by
  cases hB : atB l t with
  | true =>
    have e : nxtL l t = l := by unfold nxtL; rw [if_pos hB]
    simp only [e] at hi ⊢
    exact at_lba hr hB hi
  | false =>
    have e : nxtL l t = l.take (atN l t) ++ [⟨t, [], -1⟩] ++ l.drop (atN l t) := by unfold nxtL; rw [if_neg (by rw [hB]; simp)]
    have h := get_mid (x := ⟨t, [], -1⟩) (atN_le l t)
    rw [← e, getD_lk hi] at h
    rw [h]
theorem map_set_lba {l : List Lk} {i : Nat} {y : Lk} (hi : i < l.length) (hy : y.lba = l[i].lba) : (l.set i y).map Lk.lba = l.map Lk.lba := by
  rw [List.map_set, hy]
  have : (l.map Lk.lba)[i]'(by simpa using hi) = l[i].lba := by simp
  rw [← this, List.set_getElem_self]
theorem putL_map {l : List Lk} {t : Int} {y : Lk} (hr : ris (l.map Lk.lba) = true) (hy : y.lba = t) : (putL l t y).map Lk.lba = (nxtL l t).map Lk.lba :=
  map_set_lba (nxtL_lt hr) (by rw [nxtL_at hr, hy])
theorem at_of {n : List Lk} {t : Int} {i : Nat} (hr : ris (n.map Lk.lba) = true) (hi : i < n.length) (h : n[i].lba = t) : atN n t = i ∧ atB n t = true := by
  have hi' : i < (n.map Lk.lba).length := by simpa using hi
  have hg : (n.map Lk.lba).getD i 0 = t := by rw [Lib.getD_lt _ _ hi', List.getElem_map, h]
  have := search_end' (i := i) (x := t) (Nat.le_of_lt hi') (fun a ha => by
      have hlt := ris_lt hr (i := a) (d := i - a - 1) (by omega)
      simp only [show a + (i - a - 1) + 1 = i by omega] at hlt
      rw [Lib.getD_lt _ _ (by omega)]
      rw [Lib.getD_lt _ _ hi'] at hg
      rw [← hg]; exact hlt) (fun a ha hal => by
      have := ris_mono hr i a ha hal
      rw [hg] at this; exact this) (ris_mono hr)
  refine ⟨this.1, ?_⟩
  show hasI _ _ = true
  rw [this.2]
  exact decide_eq_true ⟨hi', hg⟩
theorem putL_at {l : List Lk} {t : Int} {y : Lk} (h0 : 0 ≤ t) (hr : ris (l.map Lk.lba) = true) (hy : y.lba = t) :
    atN (putL l t y) t = atN l t ∧ atB (putL l t y) t = true ∧ nxtL (putL l t y) t = putL l t y ∧ (putL l t y).getD (atN l t) lk0 = y := by
  have hi := nxtL_lt (t := t) hr
  have hlen : atN l t < (putL l t y).length := by unfold putL; rw [List.length_set]; exact hi
  have hg : (putL l t y)[atN l t] = y := by
    have h : (putL l t y)[atN l t]? = some y := List.getElem?_set_self hi
    rw [List.getElem?_eq_getElem hlen] at h
    exact Option.some.inj h
  have hr2 : ris ((putL l t y).map Lk.lba) = true := by rw [putL_map hr hy]; exact nxtL_map h0 hr
  obtain ⟨h1, h2⟩ := at_of (t := t) hr2 hlen (by rw [hg, hy])
  exact ⟨h1, h2, by rw [nxtL, if_pos h2], by rw [getD_lk hlen, hg]⟩
theorem putL_ok {l : List Lk} {t : Int} {y : Lk} (hok : okL l = true) (h0 : 0 ≤ t) (hf : atB l t = true ∨ l.length < 64) (hy : y.lba = t) (hone : oneL y = true) : okL (putL l t y) = true := by
  have hr := okL_ris' hok
  have h1 : (putL l t y).length ≤ 64 := by
    unfold putL nxtL
    rw [List.length_set]
    have := okL_len hok
    have hn := atN_le l t
    split
    · exact this
    · rename_i h
      have : l.length < 64 := hf.resolve_left h
      simp; omega
  have h2 : ris ((putL l t y).map Lk.lba) = true := by rw [putL_map hr hy]; exact nxtL_map h0 hr
  have h3 : (putL l t y).all oneL = true := by
    rw [List.all_eq_true]
    intro x hx
    have hi := nxtL_lt (t := t) hr
    obtain ⟨j, hj, rfl⟩ := List.getElem_of_mem hx
    by_cases e : j = atN l t
    · subst e
      have h : (putL l t y)[atN l t]? = some y := List.getElem?_set_self hi
      rw [List.getElem?_eq_getElem hj] at h
      rw [Option.some.inj h]; exact hone
    · have hj2 : j < (nxtL l t).length := by unfold putL at hj; rwa [List.length_set] at hj
      have h : (putL l t y)[j]? = (nxtL l t)[j]? := List.getElem?_set_ne (Ne.symm e)
      rw [List.getElem?_eq_getElem hj, List.getElem?_eq_getElem hj2] at h
      rw [Option.some.inj h]
      rcases nxtL_mem (List.getElem_mem hj2) with hm | hm
      · exact okL_all hok _ hm
      · exfalso
        have hr2 := nxtL_map h0 hr
        have hnl := nxtL_at hr hi
        have hl1 : (nxtL l t)[j].lba = t := by rw [hm]
        have a1 := (at_of hr2 hj2 hl1).1
        have a2 := (at_of hr2 hi hnl).1
        omega
  simp only [okL, h2, h3, decide_eq_true h1, Bool.and_self]
theorem putL_apart {l : List Lk} {t : Int} {y : Lk} (hr : ris (l.map Lk.lba) = true) (hy : y.lba = t) : (putL l t y).filter (fun x => x.lba != t) = l.filter (fun x => x.lba != t) := by
  unfold putL
  cases hB : atB l t with
  | true =>
    have e : nxtL l t = l := by unfold nxtL; rw [if_pos hB]
    have hi := atB_lt hr hB
    have hl := at_lba hr hB hi
    have e3 : l.filter (fun x => x.lba != t) = (l.take (atN l t) ++ [l[atN l t]] ++ l.drop (atN l t + 1)).filter (fun x => x.lba != t) := by rw [← same_at hi]
    have f1 : [y].filter (fun x => x.lba != t) = [] := by simp [hy]
    have f2 : [l[atN l t]].filter (fun x => x.lba != t) = [] := by simp [hl]
    rw [e, set_at hi, e3, List.filter_append, List.filter_append, List.filter_append, List.filter_append, f1, f2]
  | false =>
    have e : nxtL l t = l.take (atN l t) ++ [⟨t, [], -1⟩] ++ l.drop (atN l t) := by unfold nxtL; rw [if_neg (by rw [hB]; simp)]
    have e3 : l.filter (fun x => x.lba != t) = (l.take (atN l t) ++ l.drop (atN l t)).filter (fun x => x.lba != t) := by rw [List.take_append_drop]
    have f1 : [y].filter (fun x => x.lba != t) = [] := by simp [hy]
    rw [e, set_mid (atN_le l t), e3, List.filter_append, List.filter_append, List.filter_append, f1, List.append_nil]

/-- What Read comes to. -/
theorem readL_cases {l : List Lk} {id lba : Int} (hok : okL l = true) (h0 : 0 ≤ id) (h1 : 0 ≤ lba) (he : (readL l id lba).2 = 0) :
    (readL l id lba = (l, 0) ∧ atB l lba = true) ∨ ∃ y, readL l id lba = (putL l lba y, 0) ∧ y.lba = lba ∧ oneL y = true ∧ y.writer = -1 ∧ hasI y.reads id = true ∧ (atB l lba = true ∨ l.length < 64) ∧ ∀ z ∈ y.reads, z = id ∨ ∃ x ∈ l, z ∈ x.reads := by
  have hr := okL_ris' hok
  have hi := nxtL_lt (t := lba) hr
  unfold readL at he ⊢
  rw [if_neg (by rw [hok]; simp; omega)] at he ⊢
  by_cases hf : atB l lba = false ∧ 64 ≤ l.length
  · rw [if_pos hf] at he; simp at he
  · rw [if_neg hf] at he ⊢
    have hroom : atB l lba = true ∨ l.length < 64 := by
      cases hB : atB l lba with
      | true => exact .inl rfl
      | false => right; rcases Nat.lt_or_ge l.length 64 with h | h
                 · exact h
                 · exact absurd ⟨hB, h⟩ hf
    unfold readR at he ⊢
    have hxl := nxtL_at hr hi
    have hmem := nxtL_mem (List.getElem_mem hi)
    rw [getD_lk hi] at he ⊢
    generalize hx : (nxtL l lba)[atN l lba] = x at *
    have hris := nxtL_one (x := x) hok (t := lba) (by rw [← hx]; exact List.getElem_mem hi)
    by_cases c1 : x.writer ≠ -1 ∧ x.writer ≠ id
    · rw [if_pos c1] at he; simp at he
    · rw [if_neg c1] at he ⊢
      by_cases c2 : x.writer = id ∨ hasI x.reads id = true
      · rw [if_pos c2] at he ⊢
        left
        have hB : atB l lba = true := by
          cases hB : atB l lba with
          | true => rfl
          | false =>
            exfalso
            have e : nxtL l lba = l.take (atN l lba) ++ [⟨lba, [], -1⟩] ++ l.drop (atN l lba) := by unfold nxtL; rw [if_neg (by rw [hB]; simp)]
            have h := get_mid (x := ⟨lba, [], -1⟩) (atN_le l lba)
            rw [← e, getD_lk hi, hx] at h
            rw [h] at c2
            rcases c2 with h2 | h2
            · simp at h2; omega
            · simp [hasI] at h2
        have e : nxtL l lba = l := by unfold nxtL; rw [if_pos hB]
        exact ⟨by rw [e], hB⟩
      · rw [if_neg c2] at he ⊢
        by_cases c3 : 8 ≤ x.reads.length
        · rw [if_pos c3] at he; simp at he
        · rw [if_neg c3]
          right
          have hnot : hasI x.reads id = false := by
            cases hh : hasI x.reads id with
            | true => exact absurd (.inr hh) c2
            | false => rfl
          have hwm : x.writer = -1 := by
            by_cases h : x.writer = -1
            · exact h
            · exact absurd ⟨h, fun e => c2 (.inl e)⟩ c1
          refine ⟨_, rfl, hxl, ?_, hwm, hasI_insI _ _, hroom, fun z hz => ?_⟩
          · have hl : (insI x.reads id).length = x.reads.length + 1 := by have := lb_le x.reads id; simp [insI]; omega
            simp only [oneL, ris_insI hris.1 h0 hnot, hwm, hl]
            rw [decide_eq_true (show x.reads.length + 1 ≤ 8 by omega), decide_eq_true (show 0 < x.reads.length + 1 by omega)]
            rfl
          · simp only [insI, List.mem_append, List.mem_singleton] at hz
            rcases hmem with hm | hm
            · rcases hz with (hz | hz) | hz
              · exact .inr ⟨x, hm, List.mem_of_mem_take hz⟩
              · exact .inl hz
              · exact .inr ⟨x, hm, List.mem_of_mem_drop hz⟩
            · rw [hm] at hz
              simp at hz
              exact .inl hz
theorem writeL_cases {l : List Lk} {id lba : Int} (hok : okL l = true) (h0 : 0 ≤ id) (h1 : 0 ≤ lba) (he : (writeL l id lba).2 = 0) :
    writeL l id lba = (putL l lba ⟨lba, [], id⟩, 0) ∧ (atB l lba = true ∨ l.length < 64) ∧ (readL l id lba).2 = 0 := by
  have hr := okL_ris' hok
  have hi := nxtL_lt (t := lba) hr
  unfold writeL at he ⊢
  unfold readL
  have hn : ¬ (okL l = false ∨ id < 0 ∨ lba < 0) := by rw [hok]; simp; omega
  rw [if_neg hn] at he ⊢
  rw [if_neg hn]
  by_cases hf : atB l lba = false ∧ 64 ≤ l.length
  · rw [if_pos hf] at he; simp at he
  · rw [if_neg hf] at he ⊢
    rw [if_neg hf]
    have hroom : atB l lba = true ∨ l.length < 64 := by
      cases hB : atB l lba with
      | true => exact .inl rfl
      | false => right; rcases Nat.lt_or_ge l.length 64 with h | h
                 · exact h
                 · exact absurd ⟨hB, h⟩ hf
    unfold writeR at he ⊢
    unfold readR
    have hxl := nxtL_at hr hi
    rw [getD_lk hi] at he ⊢
    generalize hx : (nxtL l lba)[atN l lba] = x at *
    by_cases c1 : (x.writer ≠ -1 ∧ x.writer ≠ id) ∨ x.reads.any (fun y => y != id) = true
    · rw [if_pos c1] at he; simp at he
    · rw [if_neg c1, hxl]
      refine ⟨rfl, hroom, ?_⟩
      rw [if_neg (fun h => c1 (.inl h))]
      by_cases c2 : x.writer = id ∨ hasI x.reads id = true
      · rw [if_pos c2]
      · rw [if_neg c2]
        have hnil : x.reads = [] := by
          cases hrd : x.reads with
          | nil => rfl
          | cons z t =>
            exfalso
            by_cases hz : z = id
            · exact c2 (.inr (by rw [hrd, hz]; simp [hasI]))
            · exact c1 (.inr (by rw [hrd]; simp [hz]))
        rw [hnil]
        rfl

theorem oneL_wr {id lba : Int} (h0 : 0 ≤ id) : oneL ⟨lba, [], id⟩ = true := by
  simp only [oneL, List.length_nil]
  rw [decide_eq_true (show -1 ≤ id by omega)]
  have : (id != -1) = true := by simp; omega
  rw [this]; rfl
theorem again_read {l : List Lk} {id lba : Int} (hok : okL l = true) (h0 : 0 ≤ id) (h1 : 0 ≤ lba) (he : (readL l id lba).2 = 0) :
    okL (readL l id lba).1 = true ∧ readL (readL l id lba).1 id lba = ((readL l id lba).1, 0) ∧ (readL l id lba).1.filter (fun x => x.lba != lba) = l.filter (fun x => x.lba != lba) := by
  rcases readL_cases hok h0 h1 he with ⟨e, _⟩ | ⟨y, e, hy, hone, hw, hh, hroom, _⟩
  · rw [e]; exact ⟨hok, e, rfl⟩
  · rw [e]
    have hr := okL_ris' hok
    have ho := putL_ok hok h1 hroom hy hone
    obtain ⟨p1, p2, p3, p4⟩ := putL_at h1 hr hy
    refine ⟨ho, ?_, putL_apart hr hy⟩
    unfold readL
    rw [if_neg (by rw [ho]; simp; omega), if_neg (by rw [p2]; simp), p3, p1]
    unfold readR
    rw [p4, if_neg (fun h => h.1 hw), if_pos (.inr hh)]
theorem again_write {l : List Lk} {id lba : Int} (hok : okL l = true) (h0 : 0 ≤ id) (h1 : 0 ≤ lba) (he : (writeL l id lba).2 = 0) :
    okL (writeL l id lba).1 = true ∧ writeL (writeL l id lba).1 id lba = ((writeL l id lba).1, 0) ∧ readL (writeL l id lba).1 id lba = ((writeL l id lba).1, 0) ∧ (writeL l id lba).1.filter (fun x => x.lba != lba) = l.filter (fun x => x.lba != lba) := by
  obtain ⟨e, hroom, _⟩ := writeL_cases hok h0 h1 he
  rw [e]
  have hr := okL_ris' hok
  have hone := oneL_wr (lba := lba) h0
  have ho := putL_ok hok h1 hroom (y := ⟨lba, [], id⟩) rfl hone
  obtain ⟨p1, p2, p3, p4⟩ := putL_at (y := ⟨lba, [], id⟩) h1 hr rfl
  refine ⟨ho, ?_, ?_, putL_apart hr rfl⟩
  · unfold writeL
    rw [if_neg (by rw [ho]; simp; omega), if_neg (by rw [p2]; simp), p3, p1]
    unfold writeR
    rw [p4, if_neg (by simp)]
    congr 1
    unfold putL
    rw [List.set_set]
  · unfold readL
    rw [if_neg (by rw [ho]; simp; omega), if_neg (by rw [p2]; simp), p3, p1]
    unfold readR
    rw [p4, if_neg (fun h => h.2 rfl), if_pos (.inl rfl)]
end Go.Proofs.Ytombdkdidnoomaa
