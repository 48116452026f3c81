/-
Plain laws of DiskCrashes.
-/
import Derived.Test.YtkdjacmabeeceaaKeeps0
import Derived.Test.YtkdjacmabeeceaaDies
namespace Go.Proofs.Ytkdjacmabeeceaa
open Go.RowKit

/-- A disk of n good cells; sure: what was flushed; now: what is read. -/
structure CInv (n i : Nat) (d : Dis) (sure now : List (List UInt8)) : Prop where
  ok : OkD d
  len : d.cells.length = n
  left : d.left = -1
  st : ∀ c ∈ d.cells, c.state = 0
  cache : d.cache.length ≤ i
  sure : d.cells.map Cel.bytes = sure
  now : (runC d.cells d.cache).map Cel.bytes = now
section
variable {n i : Nat} {d : Dis} {sure now : List (List UInt8)}
theorem CInv.lens (h : CInv n i d sure now) : sure.length = n ∧ now.length = n := by
  rw [← h.sure, ← h.now, List.length_map, List.length_map, runC_length]; exact ⟨h.len, h.len⟩
theorem CInv.start {n : Nat} (h1 : 1 ≤ n) (h8 : n ≤ 8) : CInv n 0 ⟨List.replicate n ⟨0, [], []⟩, [], 0, -1⟩ (List.replicate n []) (List.replicate n []) :=
  ⟨okNew h1 h8, List.length_replicate, rfl, fun c hc => by obtain rfl := List.eq_of_mem_replicate hc; rfl, Nat.le_refl _, by show (List.replicate n _).map _ = _; rw [List.map_replicate], by show (runC (List.replicate n _) []).map _ = _; rw [show runC (List.replicate n (⟨0, [], []⟩ : Cel)) [] = List.replicate n ⟨0, [], []⟩ from rfl, List.map_replicate]⟩
theorem CInv.l0 (h : CInv n i d sure now) : d.left ≠ 0 ∧ (reqD d).left = -1 := by
  refine ⟨by rw [h.left]; decide, ?_⟩
  simp only [reqD]; rw [h.left]; decide
theorem CInv.req (h : CInv n i d sure now) : CInv n (i + 1) (reqD d) sure now := ⟨h.ok.req, h.len, h.l0.2, h.st, Nat.le_succ_of_le h.cache, h.sure, h.now⟩
theorem CInv.write (h : CInv n i d sure now) {a : Nat} {b : List UInt8} (ha : a < n) (hb : b.length ≤ 200) (hi : i < 1000) :
    ∃ d', writeT d a b = (d', 0) ∧ CInv n (i + 1) d' sure (now.set a b) := by
  have hlt : a < d.cells.length := by rw [h.len]; exact ha
  have ok : (okT d a && decide (b.length ≤ 200)) = true := by simp only [okT, okD_iff.2 h.ok, inB, hb, Bool.true_and, Bool.and_eq_true, decide_eq_true_eq, and_true]; omega
  have hst : ¬ d.cells[a].state = 2 := by rw [h.st _ (List.getElem_mem hlt)]; decide
  have hc := h.cache
  have hw := writeD_0 (b := b) hlt h.l0.1 hst (by omega)
  have hO := h.ok.write (j := a) hlt hb
  rw [hw] at hO
  refine ⟨_, by rw [writeT, ok, if_pos rfl, Int.toNat_natCast]; exact hw, hO, h.len, h.l0.2, h.st, by simp; omega, h.sure, ?_⟩
  show (runC d.cells (d.cache ++ [⟨(a : Int), b⟩])).map Cel.bytes = _
  rw [runC_snoc, Int.toNat_natCast, doneC_good (run_st0 h.st) (by rw [runC_length]; exact hlt), List.map_set, h.now]
theorem CInv.flush (h : CInv n i d sure now) : ∃ d', flushT d = (d', 0) ∧ CInv n (i + 1) d' now now := by
  have hO := h.ok.flush
  have hf : flushD d = ({ reqD d with cells := runC d.cells d.cache, cache := [] }, 0) := by rw [flushD, if_neg h.l0.1]
  rw [hf] at hO
  exact ⟨_, by rw [flushT, okD_iff.2 h.ok, if_pos rfl, hf], hO, by show (runC d.cells d.cache).length = n; rw [runC_length]; exact h.len, h.l0.2, run_st0 h.st, Nat.zero_le _, h.now, h.now⟩
theorem CInv.read (h : CInv n i d sure now) {a : Nat} (ha : a < n) (ha' : a < now.length) : readT d a = (reqD d, now[a], 0) := by
  have hlt : a < d.cells.length := by rw [h.len]; exact ha
  have ok : okT d a = true := by simp only [okT, okD_iff.2 h.ok, inB, Bool.true_and, Bool.and_eq_true, decide_eq_true_eq]; omega
  have hs := h.st _ (List.getElem_mem hlt)
  obtain ⟨c, hc1, -, hc3⟩ := runC_cell d.cells a hlt (by rw [hs]; decide) d.cache (fun x hx => by have := h.ok.2.2 x hx; omega)
  have hna : now[a] = c.bytes := by
    have : now[a]? = some c.bytes := by rw [← h.now, List.getElem?_map, hc1]; rfl
    rw [List.getElem?_eq_getElem ha'] at this
    injection this
  have hv : readV d a = (now[a], 0) := by
    unfold readV
    rw [if_neg h.l0.1, hna]
    cases hw : lastW d.cache a with
    | some t => rw [hw] at hc3; simp only [Prod.mk.injEq] at hc3 ⊢; exact ⟨hc3.2.symm, trivial⟩
    | none =>
      rw [hw] at hc3
      simp only [Prod.mk.injEq] at hc3
      simp only [List.getElem?_eq_getElem hlt]
      rw [if_pos hs, hc3.2]
  rw [readT, ok, if_pos rfl, Int.toNat_natCast, hv, readD, if_neg h.l0.1]
theorem CInv.crash0 (h : CInv n i d sure now) : ∃ d', crashT d 0 = (d', 0) ∧ d'.cache = [] ∧ CInv n (i + 1) d' sure sure := by
  have hc : (crashD d 0).cells = d.cells := by simp only [crashD]; rw [runK_zero]
  refine ⟨crashD d 0, by simp [crashT, okD_iff.2 h.ok], rfl, h.ok.crash, by rw [hc]; exact h.len, rfl, by rw [hc]; exact h.st, Nat.zero_le _, by rw [hc]; exact h.sure, ?_⟩
  show (runC (crashD d 0).cells []).map Cel.bytes = _
  rw [hc]; exact h.sure
theorem CInv.crashA (h : CInv n i d sure now) : ∃ d', crashT d 2147483647 = (d', 0) ∧ d'.cache = [] ∧ CInv n (i + 1) d' now now := by
  have hc : (crashD d 2147483647).cells = runC d.cells d.cache := by simp only [crashD]; rw [runK_all _ _ _ (Nat.le_refl _), List.take_length]
  refine ⟨crashD d 2147483647, by simp [crashT, okD_iff.2 h.ok], rfl, h.ok.crash, by rw [hc, runC_length]; exact h.len, rfl, by rw [hc]; exact run_st0 h.st, Nat.zero_le _, by rw [hc]; exact h.now, ?_⟩
  show (runC (crashD d 2147483647).cells []).map Cel.bytes = _
  rw [hc]; exact h.now
end
end Go.Proofs.Ytkdjacmabeeceaa
