/-
Plain laws on records as bytes: what is written is read; no other length is.
-/
import Derived.Test.YtpknhpfbinplgaaRcRread
namespace Go.Proofs.Ytpknhpfbinplgaa

theorem recB_len {g : Geo} {r : Rc} (h : okR g r = true) : (recB r).length = if r.kind = 1 then 14 + r.img.bytes.length else 11 := by
  unfold recB
  rw [List.length_append, rowR_len]
  split
  · rw [imgB_len]; omega
  · rfl
theorem recB_short {g : Geo} {r : Rc} (h : okR g r = true) : 11 ≤ (recB r).length ∧ (recB r).length ≤ 59 := by
  rw [recB_len h]
  split
  · rename_i hk
    rcases (okR_parts h).2 with h' | h' | h'
    · omega
    · have := img_short h'.2.2.2.2.2
      omega
    · omega
  · omega
theorem nums_recB {g : Geo} {r : Rc} (h : okR g r = true) (t : List UInt8) : nums szR (recB r ++ t) = numsOf r := by
  unfold recB
  rw [List.append_assoc]
  exact nums_rowB _ _ _ rfl (fun k a b => rec_fits h k a b)
theorem drop_recB (r : Rc) : (recB r).drop 11 = if r.kind = 1 then imgB r.img else [] := by
  unfold recB
  rw [List.drop_append, rowR_len, List.drop_eq_nil_of_le (by rw [rowR_len]; exact Nat.le_refl _)]
  simp
theorem whatN_whatB {g : Geo} {x : Img} (h : imgOk g x = true) : whatN (whatB x.what) = x.what := by
  obtain ⟨h1, -, h3⟩ := imgOk_parts h
  obtain ⟨-, hd, -⟩ := okG_iff.1 h1
  unfold whatN whatB
  split
  · split at * <;> omega
  · split at * <;> omega
theorem imgB_drop2 (x : Img) : (imgB x).drop 2 = UInt8.ofNat x.bytes.length :: x.bytes := by
  unfold imgB
  have hl : (rowB [x.zone, whatB x.what] [1, 1]).length = 2 := by rw [tot_rowB [x.zone, whatB x.what] [1, 1] rfl]; rfl
  rw [List.drop_append, hl, List.drop_eq_nil_of_le (by rw [hl]; exact Nat.le_refl _)]
  rfl
theorem imgOf_imgB {g : Geo} {x : Img} (h : imgOk g x = true) : imgOf (imgB x) = x := by
  have h1 : nums [1, 1] (imgB x) = [x.zone, whatB x.what] := by
    unfold imgB
    exact nums_rowB [x.zone, whatB x.what] [1, 1] _ rfl (fun k a b => img_fits h k a b)
  have hs := img_short h
  have hp : partN (UInt8.ofNat x.bytes.length :: x.bytes) = x.bytes.length := by
    simp only [partN, List.headD_cons]
    simp
    omega
  unfold imgOf
  rw [h1, imgB_drop2, hp]
  simp [whatN_whatB h]
theorem shown_imgB {g : Geo} {x : Img} (h : imgOk g x = true) : shownOk (imgB x) = true := by
  have hs := img_short h
  have hp : partN (UInt8.ofNat x.bytes.length :: x.bytes) = x.bytes.length := by
    simp only [partN, List.headD_cons]
    simp
    omega
  have hl := imgB_len x
  simp only [shownOk, partOk, imgB_drop2, hp, List.length_cons, Bool.and_eq_true, decide_eq_true_eq]
  omega
theorem parse_recB {g : Geo} {r : Rc} (h : okR g r = true) : parseR (recB r) = r := by
  have hn := nums_recB h []
  rw [List.append_nil] at hn
  unfold parseR
  rw [hn, drop_recB]
  obtain ⟨kind, seq, epoch, at_, of_, ⟨zone, what, bytes⟩⟩ := r
  simp only [numsOf]
  rcases (okR_parts h).2 with h' | h' | h'
  · simp only at h'
    obtain ⟨rfl, rfl, rfl, rfl, rfl, rfl, rfl, rfl⟩ := h'
    simp [noImg]
  · simp only at h'
    obtain ⟨rfl, -, -, -, -, hi⟩ := h'
    simp [imgOf_imgB hi]
  · simp only at h'
    obtain ⟨rfl, -, -, -, rfl, rfl, rfl, rfl⟩ := h'
    simp [noImg]
/-- What is written is read. -/
theorem readR_recB {g : Geo} {r : Rc} (h : okR g r = true) : readR g (recB r) = some r := by
  unfold readR
  rw [parse_recB h, if_pos]
  refine ⟨(recB_short h).1, fun hk => ?_, h, rfl⟩
  rw [drop_recB, if_pos hk]
  rcases (okR_parts h).2 with h' | h' | h'
  · omega
  · exact shown_imgB h'.2.2.2.2.2
  · omega
theorem readR_some {g : Geo} {b : List UInt8} {r : Rc} (h : readR g b = some r) : okR g r = true ∧ recB r = b := by
  unfold readR at h
  split at h
  · rename_i h'
    cases h
    exact h'.2.2
  · cases h
theorem recB_inj {g : Geo} {r q : Rc} (hr : okR g r = true) (hq : okR g q = true) : recB r = recB q ↔ r = q := by
  refine ⟨fun e => ?_, fun e => by rw [e]⟩
  have h1 := readR_recB hr
  rw [e, readR_recB hq] at h1
  exact (Option.some.inj h1).symm
/-- How long bytes say that they are. -/
def recLen (b : List UInt8) : Nat := if b.getD 0 0 = 1 then 14 + (b.getD 13 0).toNat else 11
theorem recLen_recB {g : Geo} {r : Rc} (h : okR g r = true) (t : List UInt8) : recLen (recB r ++ t) = (recB r).length := by
  have hfit := rec_fits h 0 (by simp [numsOf]) (by simp)
  simp only [numsOf, List.getElem_cons_zero] at hfit
  have e1 : limS 1 = 256 := rfl
  rw [recB_len h]
  have h0 : (recB r ++ t).getD 0 0 = UInt8.ofNat (r.kind.toNat % 256) := by
    unfold recB numsOf
    simp [rowB, leB]
  have hk : (recB r ++ t).getD 0 0 = 1 ↔ r.kind = 1 := by
    rw [h0]
    rcases (okR_parts h).2 with h' | h' | h' <;> rw [h'.1] <;> decide
  unfold recLen
  by_cases hk1 : r.kind = 1
  · rw [if_pos (hk.2 hk1), if_pos hk1]
    rcases (okR_parts h).2 with h' | h' | h'
    · omega
    · have hs := img_short h'.2.2.2.2.2
      have h13 : (recB r ++ t).getD 13 0 = UInt8.ofNat r.img.bytes.length := by
        have hd : (recB r ++ t).drop 13 = UInt8.ofNat r.img.bytes.length :: (r.img.bytes ++ t) := by
          have : (recB r ++ t).drop 13 = ((recB r).drop 13) ++ t := by
            rw [List.drop_append_of_le_length]
            rw [recB_len h, if_pos hk1]
            omega
          rw [this, show (13 : Nat) = 11 + 2 from rfl, ← List.drop_drop, drop_recB, if_pos hk1, imgB_drop2]
          rfl
        have := congrArg (fun l : List UInt8 => l.getD 0 0) hd
        simpa [List.getD_eq_getElem?_getD, List.getElem?_drop] using this
      rw [h13]
      simp
      omega
    · omega
  · rw [if_neg (fun h' => hk1 (hk.1 h')), if_neg hk1]
/-- Cut short, they are none. -/
theorem readR_cut {g : Geo} {r : Rc} (h : okR g r = true) {n : Nat} (hn : n < (recB r).length) : readR g ((recB r).take n) = none := by
  cases hq : readR g ((recB r).take n) with
  | none => rfl
  | some q =>
    obtain ⟨h1, h2⟩ := readR_some hq
    have h3 := recLen_recB h1 ((recB r).drop n)
    rw [h2, List.take_append_drop] at h3
    have h4 := recLen_recB h []
    rw [List.append_nil] at h4
    rw [h4, List.length_take] at h3
    omega
/-- With a byte more they are none. -/
theorem readR_more {g : Geo} {r : Rc} (h : okR g r = true) (x : UInt8) : readR g (recB r ++ [x]) = none := by
  cases hq : readR g (recB r ++ [x]) with
  | none => rfl
  | some q =>
    obtain ⟨h1, h2⟩ := readR_some hq
    have h3 := recLen_recB h1 []
    rw [List.append_nil, h2, recLen_recB h [x], List.length_append] at h3
    simp at h3
end Go.Proofs.Ytpknhpfbinplgaa
