/-
Plain laws of DiskReads.
-/
import Derived.Test.YtkdjacmabeeceaaRight
namespace Go.Proofs.Ytkdjacmabeeceaa
open Go.RowKit

theorem snocInd {α : Type} {P : List α → Prop} (h0 : P []) (h1 : ∀ l x, P l → P (l ++ [x])) (l : List α) : P l := by
  rw [← List.reverse_reverse l]
  generalize l.reverse = m
  induction m with
  | nil => exact h0
  | cons x t ih => rw [List.reverse_cons]; exact h1 _ _ ih
theorem lastW_nil (k : Nat) : lastW [] k = none := rfl
theorem lastW_snoc (l : List Wri) (x : Wri) (k : Nat) : lastW (l ++ [x]) k = if x.addr = (k : Int) then some x.bytes else lastW l k := by
  unfold lastW
  rw [List.reverse_append, List.reverse_singleton, List.singleton_append, List.find?_cons]
  by_cases h : x.addr = (k : Int)
  · rw [if_pos h]; simp [h]
  · have : (x.addr == (k : Int)) = false := by simpa using h
    rw [this, if_neg h]
theorem runC_snoc (l : List Cel) (ws : List Wri) (x : Wri) : runC l (ws ++ [x]) = doneC (runC l ws) x.addr.toNat x.bytes := by
  simp [runC, List.foldl_append]
/-- What the writes leave in a cell that is not stuck. -/
theorem runC_cell (l : List Cel) (k : Nat) (hk : k < l.length) (hs : l[k].state ≠ 2) : ∀ (ws : List Wri), (∀ x ∈ ws, 0 ≤ x.addr ∧ x.addr < l.length) → ∃ c, (runC l ws)[k]? = some c ∧ c.state ≠ 2 ∧
    (c.state, c.bytes) = match lastW ws k with
      | some b => (0, b)
      | none => (l[k].state, l[k].bytes) := by
  refine snocInd ?_ ?_
  · intro _; exact ⟨l[k], List.getElem?_eq_getElem hk, hs, rfl⟩
  · intro ws x ih hw
    obtain ⟨c, hc, hc2, he⟩ := ih (fun y hy => hw y (by simp [hy]))
    have hx := hw x (by simp)
    rw [runC_snoc, lastW_snoc]
    have hlen := runC_length l ws
    by_cases h : x.addr = (k : Int)
    · rw [if_pos h, h, Int.toNat_natCast]
      refine ⟨⟨0, x.bytes, c.bytes⟩, ?_, by simp, rfl⟩
      unfold doneC
      rw [hc]
      simp only [hc2, if_false]
      rw [List.getElem?_set_self (by omega)]
    · rw [if_neg h]
      refine ⟨c, ?_, hc2, he⟩
      unfold doneC
      split
      · split
        · exact hc
        · rw [List.getElem?_set_ne (by omega)]; exact hc
      · exact hc

theorem reads_facts {d : Dis} {a b : Nat} {x : List UInt8} (h : disB d = true) (hx : x.length ≤ 200) (hl : ¬ (0 ≤ d.left ∧ d.left < 5)) (hc : d.cache.length < 50) (ha : a < d.cells.length) (hb : b < d.cells.length) :
    ∃ (r s w w2 l l2 : Dis) (y u v : List UInt8) (e g h j : Int), readT d a = (r, y, e) ∧ readT r a = (s, y, e) ∧ writeT d b x = (w, g) ∧ readT w a = (w2, u, h) ∧ flushT d = (l, 0) ∧ readT l a = (l2, v, j) ∧
      r.cells.length = d.cells.length ∧ s.cache = d.cache ∧ (g = 0 ∨ g = 7) ∧ (a ≠ b → h = e ∧ u = y) ∧ (a = b → g = 0 → h = 0 ∧ u = x) ∧ (e = 0 → d.cells[a].state ≠ 2 → j = 0 ∧ v = y) ∧ OkD r ∧ OkD s ∧ OkD w ∧ OkD w2 ∧ OkD l ∧ OkD l2 ∧ y.length ≤ 200 ∧ u.length ≤ 200 ∧ v.length ≤ 200 := by
  have hO := okD_iff.1 h
  have hn : d.left ≠ 0 := by omega
  have okA : okT d a = true := by simp only [okT, h, inB, Bool.true_and, Bool.and_eq_true, decide_eq_true_eq]; omega
  have okB : (okT d b && decide (x.length ≤ 200)) = true := by simp only [okT, h, inB, hx, Bool.true_and, Bool.and_eq_true, decide_eq_true_eq, and_true]; omega
  have hq := hO.req
  have hqn : (reqD d).left ≠ 0 := by simp only [reqD]; split <;> omega
  have okR : okT (reqD d) a = true := by simp only [okT, okD_iff.2 hq, inB, Bool.true_and, Bool.and_eq_true, decide_eq_true_eq]; exact ⟨by omega, by show (a : Int) ≤ (d.cells.length : Int) - 1; omega⟩
  have rd : ∀ (D : Dis), OkD D → D.left ≠ 0 → a < D.cells.length → readT D a = (reqD D, readV D a) := fun D hD hl' ha' => by
    have : okT D a = true := by simp only [okT, okD_iff.2 hD, inB, Bool.true_and, Bool.and_eq_true, decide_eq_true_eq]; omega
    rw [readT, this, if_pos rfl, readD, if_neg hl', Int.toNat_natCast]
  have vlen : ∀ (D : Dis), OkD D → (readV D a).1.length ≤ 200 := fun D hD => by
    unfold readV
    split
    · simp
    · cases hw : lastW D.cache a with
      | some t =>
        unfold lastW at hw
        rw [Option.map_eq_some_iff] at hw
        obtain ⟨y, hy, rfl⟩ := hw
        have := List.mem_of_find?_eq_some hy
        exact (hD.2.2 y (by simpa using this)).2.2
      | none =>
        cases hc' : D.cells[a]? with
        | none => simp
        | some c =>
          simp only
          split
          · exact (hD.2.1 c (List.mem_of_getElem? hc')).2.2.1
          · simp
  have vq : readV (reqD d) a = readV d a := by
    unfold readV; rw [if_neg hqn, if_neg hn]; rfl
  have fl : flushT d = ({ reqD d with cells := runC d.cells d.cache, cache := [] }, 0) := by rw [flushT, h, if_pos rfl, flushD, if_neg hn]
  have hOl : OkD { reqD d with cells := runC d.cells d.cache, cache := [] } := by have := hO.flush; rw [flushD, if_neg hn] at this; exact this
  have hlast : (readV d a).2 = 0 → d.cells[a].state ≠ 2 → readV { reqD d with cells := runC d.cells d.cache, cache := [] } a = ((readV d a).1, 0) := by
    intro he hst
    obtain ⟨c, hc1, hc2, hc3⟩ := runC_cell d.cells a ha hst d.cache (fun x hx => by have := hO.2.2 x hx; omega)
    have hv : readV { reqD d with cells := runC d.cells d.cache, cache := [] } a = if c.state = 0 then (c.bytes, 0) else ([], 6) := by
      unfold readV
      rw [if_neg hqn]
      simp only [lastW_nil, hc1]
    rw [hv]
    unfold readV at he ⊢
    rw [if_neg hn] at he ⊢
    cases hw : lastW d.cache a with
    | some t =>
      rw [hw] at hc3
      simp only [Prod.mk.injEq] at hc3
      rw [if_pos hc3.1, hc3.2]
    | none =>
      rw [hw] at hc3 he
      simp only [Prod.mk.injEq] at hc3
      simp only [List.getElem?_eq_getElem ha] at he ⊢
      by_cases h0 : d.cells[a].state = 0
      · rw [if_pos (by rw [hc3.1]; exact h0), if_pos h0, hc3.2]
      · rw [if_neg h0] at he; cases he
  have rl := rd _ hOl hqn (by show a < (runC d.cells d.cache).length; rw [runC_length]; exact ha)
  have hflr : ∃ L, flushT d = (L, 0) ∧ OkD L ∧ readT L a = (reqD L, readV L a) ∧ ((readV d a).2 = 0 → d.cells[a].state ≠ 2 → readV L a = ((readV d a).1, 0)) := ⟨_, fl, hOl, rl, hlast⟩
  clear fl hOl rl hlast
  obtain ⟨L, fl, hOl, rl, hlast⟩ := hflr
  have base : ∀ (w : Dis) (g : Int), writeT d b x = (w, g) → OkD w → w.left ≠ 0 → w.cells = d.cells → (g = 0 ∨ g = 7) → (a ≠ b → readV w a = readV d a) → (a = b → g = 0 → readV w a = (x, 0)) →
      ∃ (r s w w2 l l2 : Dis) (y u v : List UInt8) (e g h j : Int), readT d a = (r, y, e) ∧ readT r a = (s, y, e) ∧ writeT d b x = (w, g) ∧ readT w a = (w2, u, h) ∧ flushT d = (l, 0) ∧ readT l a = (l2, v, j) ∧
      r.cells.length = d.cells.length ∧ s.cache = d.cache ∧ (g = 0 ∨ g = 7) ∧ (a ≠ b → h = e ∧ u = y) ∧ (a = b → g = 0 → h = 0 ∧ u = x) ∧ (e = 0 → d.cells[a].state ≠ 2 → j = 0 ∧ v = y) ∧ OkD r ∧ OkD s ∧ OkD w ∧ OkD w2 ∧ OkD l ∧ OkD l2 ∧ y.length ≤ 200 ∧ u.length ≤ 200 ∧ v.length ≤ 200 := by
    intro w g hw hOw hwl hwc hg h1 h2
    refine ⟨reqD d, reqD (reqD d), w, reqD w, L, reqD L, (readV d a).1, (readV w a).1, (readV L a).1, (readV d a).2, g, (readV w a).2, (readV L a).2, rd d hO hn ha, ?_, hw, rd w hOw hwl (by rw [hwc]; exact ha), fl, rl, rfl, rfl, hg, fun hne => ?_, fun he hg0 => ?_, fun he hst => ?_, hq, hq.req, hOw, hOw.req, hOl, hOl.req, vlen d hO, vlen w hOw, vlen _ hOl⟩
    · rw [rd _ hq hqn ha, vq]
    · rw [h1 hne]; exact ⟨rfl, rfl⟩
    · rw [h2 he hg0]; exact ⟨rfl, rfl⟩
    · rw [hlast he hst]; exact ⟨rfl, rfl⟩
  have hOw := hO.write hb hx
  by_cases hs : d.cells[b].state = 2
  · have hw := writeD_7 (b := x) hb hn (.inl hs)
    refine base (reqD d) 7 (by rw [writeT, okB, if_pos rfl, Int.toNat_natCast, hw]) hq hqn rfl (.inr rfl) (fun _ => vq) (fun _ hg => by cases hg)
  · have hw := writeD_0 (b := x) hb hn hs (by omega)
    rw [hw] at hOw
    refine base _ 0 (by rw [writeT, okB, if_pos rfl, Int.toNat_natCast, hw]) hOw hqn rfl (.inl rfl) (fun hne => ?_) (fun he _ => ?_)
    · unfold readV
      rw [if_neg hqn, if_neg hn]
      simp only [lastW_snoc]
      rw [if_neg (by omega)]
      rfl
    · unfold readV
      rw [if_neg hqn]
      simp only [lastW_snoc]
      rw [if_pos (by omega)]
end Go.Proofs.Ytkdjacmabeeceaa
