/-
Plain laws of DiskKeeps.
-/
import Derived.Test.YtkdjacmabeeceaaReads0
import Derived.Test.YtkdjacmabeeceaaSame
namespace Go.Proofs.Ytkdjacmabeeceaa
open Go.RowKit

theorem runK_append {keep : Int} {l : List Cel} {ws m : List Wri} : ∀ k, k ≤ ws.length → runK keep l (ws ++ m) k = runK keep l ws k := by
  intro k
  induction k with
  | zero => intro _; rfl
  | succ k ih =>
    intro h
    unfold runK
    rw [List.getElem?_append_left (by omega), ih (by omega)]
theorem doneC_good {l : List Cel} {j : Nat} {b : List UInt8} (h : ∀ c ∈ l, c.state = 0) (hj : j < l.length) : doneC l j b = l.set j ⟨0, b, l[j].bytes⟩ := by
  unfold doneC
  rw [List.getElem?_eq_getElem hj]
  simp only [h _ (List.getElem_mem hj)]
  rfl
theorem st0_set {l : List Cel} {j : Nat} {b o : List UInt8} (h : ∀ c ∈ l, c.state = 0) : ∀ c ∈ l.set j ⟨0, b, o⟩, c.state = 0 := fun c hc => by
  rcases List.mem_or_eq_of_mem_set hc with h' | rfl
  · exact h c h'
  · rfl

/-- A disk of n good cells after k writes; L: what a cut that keeps by 'keep' would leave. -/
structure KInv (keep : Int) (n k : Nat) (D : Dis) (L : List (List UInt8)) : Prop where
  ok : OkD D
  cells : D.cells = List.replicate n ⟨0, [], []⟩
  cache : D.cache.length = k
  left : D.left = -1
  st : ∀ c ∈ runK keep D.cells D.cache k, c.state = 0
  bytes : (runK keep D.cells D.cache k).map Cel.bytes = L
section
variable {keep : Int} {n k : Nat} {D : Dis} {L : List (List UInt8)}
theorem KInv.len (h : KInv keep n k D L) : L.length = n ∧ D.cells.length = n := by
  have h1 : D.cells.length = n := by rw [h.cells, List.length_replicate]
  exact ⟨by rw [← h.bytes, List.length_map, runK_length, h1], h1⟩
theorem newT_ok {n : Nat} (h1 : 1 ≤ n) (h8 : n ≤ 8) : newT n = (⟨List.replicate n ⟨0, [], []⟩, [], 0, -1⟩, 0) := by
  have : inB n 1 300 = true := by simp only [inB, Bool.and_eq_true, decide_eq_true_eq]; omega
  rw [newT, if_pos this, Int.toNat_natCast]
theorem okNew {n : Nat} (h1 : 1 ≤ n) (h8 : n ≤ 8) : OkD ⟨List.replicate n ⟨0, [], []⟩, [], 0, -1⟩ := by
  refine ⟨⟨by simp; omega, by simp; omega, by simp, by simp, by simp, by simp, by simp⟩, ?_, by simp⟩
  intro c hc; obtain rfl := List.eq_of_mem_replicate hc; simp
theorem KInv.start (keep : Int) {n : Nat} (h1 : 1 ≤ n) (h8 : n ≤ 8) : KInv keep n 0 ⟨List.replicate n ⟨0, [], []⟩, [], 0, -1⟩ (List.replicate n []) :=
  ⟨okNew h1 h8, rfl, rfl, rfl, fun c hc => by obtain rfl := List.eq_of_mem_replicate hc; rfl, by show (List.replicate n _).map _ = _; rw [List.map_replicate]⟩
theorem KInv.write (h : KInv keep n k D L) {a : Nat} {b : List UInt8} (ha : a < n) (hb : b.length ≤ 200) (hk : k < 1000) :
    ∃ D', writeT D a b = (D', 0) ∧ KInv keep n (k + 1) D' (if sel keep k then L.set a b else L) := by
  have hl := h.len.2
  have ok : (okT D a && decide (b.length ≤ 200)) = true := by simp only [okT, okD_iff.2 h.ok, inB, hb, Bool.true_and, Bool.and_eq_true, decide_eq_true_eq, and_true]; omega
  have hlt : a < D.cells.length := by omega
  have hst : ¬ D.cells[a].state = 2 := by
    have h0 : ∀ c ∈ D.cells, c.state = 0 := fun c hc => by rw [h.cells] at hc; obtain rfl := List.eq_of_mem_replicate hc; rfl
    rw [h0 _ (List.getElem_mem hlt)]; decide
  have hn0 : D.left ≠ 0 := by rw [h.left]; decide
  have hw := writeD_0 (b := b) hlt hn0 hst (by rw [h.cache]; omega)
  have hO := h.ok.write (j := a) hlt hb
  rw [hw] at hO
  refine ⟨_, by rw [writeT, ok, if_pos rfl, Int.toNat_natCast]; exact hw, hO, h.cells, by simp [h.cache], by simp only [reqD]; rw [h.left]; decide, ?_, ?_⟩
  all_goals
    obtain ⟨o, hr⟩ : ∃ o, runK keep D.cells (D.cache ++ [⟨(a : Int), b⟩]) (k + 1) = if sel keep k then (runK keep D.cells D.cache k).set a ⟨0, b, o⟩ else runK keep D.cells D.cache k := by
      have hla : a < (runK keep D.cells D.cache k).length := by rw [runK_length]; exact hlt
      refine ⟨(runK keep D.cells D.cache k)[a].bytes, ?_⟩
      rw [runK, List.getElem?_append_right (by rw [h.cache]; exact Nat.le_refl _), h.cache, Nat.sub_self, List.getElem?_cons_zero]
      simp only
      rw [runK_append k (by rw [h.cache]; exact Nat.le_refl _), Int.toNat_natCast]
      rw [doneC_good h.st hla]
  · show ∀ c ∈ runK keep D.cells (D.cache ++ [⟨(a : Int), b⟩]) (k + 1), c.state = 0
    rw [hr]
    split
    · exact st0_set h.st
    · exact h.st
  · show (runK keep D.cells (D.cache ++ [⟨(a : Int), b⟩]) (k + 1)).map Cel.bytes = _
    rw [hr]
    split
    · rw [List.map_set, h.bytes]
    · exact h.bytes
theorem KInv.crash (h : KInv keep n k D L) (hk : 0 ≤ keep) : ∃ X, crashT D keep = (X, 0) ∧ OkD X ∧ X.cells.length = n ∧ X.cells.map Cel.bytes = L := by
  refine ⟨crashD D keep, by simp [crashT, okD_iff.2 h.ok, hk], h.ok.crash, by simp only [crashD]; rw [runK_length, h.len.2], ?_⟩
  simp only [crashD]
  rw [h.cache]
  exact h.bytes
end
end Go.Proofs.Ytkdjacmabeeceaa
