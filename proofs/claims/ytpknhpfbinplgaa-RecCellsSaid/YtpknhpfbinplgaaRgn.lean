/-
Plain laws on a statement whose order Go leaves open: an operation that only computes or loads is taken first, as long as what it loads stands while it may still wait; whatever is done behind it need keep only what somebody may still be waiting to load.
-/
import Derived.Test.YtpknhpfbinplgaaBase
namespace Go.Proofs.Ytpknhpfbinplgaa

section
variable {P : Program} {ops : Array Oper} {Q : Exit → Act → World → Prop} {D : List Nat} {S : World → Prop}

/-- May one of D still be waiting when operation j has been done? -/
def mayWait (ops : Array Oper) (D : List Nat) (j : Nat) : Bool :=
  D.any fun i => i != j && !((ops[j]?).map fun o => o.after.any fun e => Region.binds .any e && e.on == i).getD false

def Held (P : Program) (ops : Array Oper) (Q : Exit → Act → World → Prop) (D : List Nat) (S : World → Prop) : Nat → Array Bool → Act → World → Prop
  | 0, l, a, w => Region.ready .any ops l = [] ∧ Q .normal a w
  | n + 1, l, a, w => (Region.ready .any ops l = [] → Q .normal a w) ∧
      ∀ i ∈ Region.ready .any ops l, wpOp P ops Q i (fun a' w' => (mayWait ops D i = true → S w') ∧ Held P ops Q D S n (l.setIfInBounds i true) a' w') a w

theorem Held.any : ∀ (n : Nat) (l : Array Bool) (a : Act) (w : World), Held P ops Q D S n l a w → wpAny P .any ops Q n l a w
  | 0, _, _, _, h => h
  | n + 1, _, _, _, h => ⟨h.1, fun i hi => wpOp_mono (fun a' w' h' => Held.any n _ a' w' h'.2) (h.2 i hi)⟩

theorem mayWait_of {i j : Nat} {oj : Oper} (hD : i ∈ D) (hj : ops[j]? = some oj) (hne : j ≠ i) (hno : ∀ e ∈ oj.after, Region.binds .any e = true → e.on ≠ i) : mayWait ops D j = true := by
  refine List.any_eq_true.2 ⟨i, hD, ?_⟩
  have hany : oj.after.any (fun e => Region.binds .any e && e.on == i) = false := by
    rw [← Bool.not_eq_true]
    intro h
    obtain ⟨e, he, hb⟩ := Array.any_eq_true'.1 h
    simp only [Bool.and_eq_true, beq_iff_eq] at hb
    exact hno e he hb.1 hb.2
  simp only [hj, Option.map_some, Option.getD_some, hany, Bool.not_false, Bool.and_true, bne_iff_ne, ne_eq]
  exact fun h => hne h.symm

theorem Held.first {S' : World → Prop} {i : Nat} {oi : Oper} {v : Value} (hi : ops[i]? = some oi)
    (hD : ∀ (j : Nat) (oj : Oper) (w : World), ops[j]? = some oj → j ≠ i → (∀ e ∈ oj.after, Region.binds .any e = true → e.on ≠ i) → (mayWait ops D j = true → S w) → S' w)
    (hD' : ∀ w, S' w → mayWait ops D i = true → S w) (hsel : ∀ (j : Nat) (o : Oper) cs b, ops[j]? = some o → o.op ≠ .select cs b)
    (hQ : ∀ c a w, Q (.panic c) (a.put oi.dst v) w → Q (.panic c) a w) : ∀ (n : Nat) (l : Array Bool) (a : Act) (w : World),
      (∀ j oj, ops[j]? = some oj → j ≠ i → l.getD j true = false → (∀ e ∈ oj.after, Region.binds .any e = true → e.on ≠ i) → oi.apart ops oj = true) →
      i ∈ Region.ready .any ops l → YieldsIf P ops S' oi v a → S' w → (mayWait ops D i = true → S w) → Held P ops Q D S n (l.setIfInBounds i true) (a.put oi.dst v) w → Held P ops Q D S (n + 1) l a w := by
  intro n
  induction n with
  | zero =>
    intro l a w _ hr hy hS hSS H
    refine ⟨fun h => (by rw [h] at hr; cases hr), fun j hj => ?_⟩
    by_cases hji : j = i
    · subst hji; exact hy.wpOp hi hS ⟨hSS, H⟩
    · have h1 := ready_mono hj hji
      rw [H.1] at h1
      cases h1
  | succ n ih =>
    intro l a w hfree hr hy hS hSS H
    refine ⟨fun h => (by rw [h] at hr; cases hr), fun j hj => ?_⟩
    by_cases hji : j = i
    · subst hji; exact hy.wpOp hi hS ⟨hSS, H⟩
    have h1 := H.2 j (ready_mono hj hji)
    obtain ⟨hjun, oj, hoj, hall⟩ := mem_ready.1 hj
    have hnot : ∀ e ∈ oj.after, Region.binds .any e = true → e.on ≠ i := fun e he hb heq => by
      have h2 := hall e he hb
      have h3 := (mem_ready.1 hr).1
      rw [heq] at h2
      rcases Nat.lt_or_ge i l.size with h' | h'
      · simp [h'] at h2 h3; rw [h3] at h2; cases h2
      · simp [Array.getElem?_eq_none h'] at h2
    have h2 := wpOp_putIf hoj (hfree j oj hoj hji hjun hnot) (fun cs b => hsel i oi cs b hi) (fun cs b => hsel j oj cs b hoj) hQ hy h1
    refine wpOp_mono (fun a' w' h3 => ⟨h3.2.1, ih (l.setIfInBounds j true) a' w' (fun k ok hk hki hun hno => ?_) (ready_mono hr (Ne.symm hji)) h3.1 (hD j oj w' hoj hji hnot h3.2.1) (fun hm => hD' _ (hD j oj w' hoj hji hnot h3.2.1) hm) ?_⟩) h2
    · refine hfree k ok hk hki ?_ hno
      by_cases hjk : j = k
      · subst hjk; exact hjun
      · rw [getD_set_ne true hjk] at hun; exact hun
    · rw [Array.setIfInBounds_comm _ _ hji]
      exact h3.2.2

/-- The beginning. -/
theorem rg_enter (D : List Nat) (S : World → Prop) {id : Nat} {a : Act} {w : World} (hm : P.follows .mixedOrders = true)
    (h : Held P ops Q D S ops.size (Array.replicate ops.size false) a w.drew) : (Code.region id ops true).wp P Q a w :=
  wp_region_any hm (Held.any _ _ _ _ h)
theorem Held.take {i : Nat} {oi : Oper} {v : Value} {n : Nat} {l : Array Bool} {a : Act} {w : World} (hi : ops[i]? = some oi)
    (hs : (Region.noSelect ops && Region.free .any ops l i && (Region.ready .any ops l).contains i && D.contains i) = true)
    (hQ : ∀ c a w, Q (.panic c) (a.put oi.dst v) w → Q (.panic c) a w) (hS : S w) (hy : YieldsIf P ops S oi v a)
    (h : Held P ops Q D S n (l.setIfInBounds i true) (a.put oi.dst v) w) : Held P ops Q D S (n + 1) l a w := by
  simp only [Bool.and_eq_true] at hs
  exact Held.first hi (fun j oj w' hj hne hno hm => hm (mayWait_of (by simpa using hs.2) hj hne hno)) (fun _ h _ => h) (Region.noSelect_spec hs.1.1.1) hQ n l a w (Region.free_spec hi hs.1.1.2) (by simpa using hs.1.2) hy hS (fun _ => hS) h
/-- Number i is taken first. -/
theorem rg_take (i : Nat) {oi : Oper} {v : Value} {n : Nat} {l : Array Bool} {a : Act} {w : World} (hi : ops[i]? = some oi)
    (hs : (Region.noSelect ops && Region.free .any ops l i && (Region.ready .any ops l).contains i && D.contains i) = true)
    (hQ : ∀ c a w, Q (.panic c) (a.put oi.dst v) w → Q (.panic c) a w) (hS : S w) (hw : Region.wanted oi (yielded ops a.tmps) = true)
    (hy : ∀ w, S w → (execOp a.eval oi).run P w = .ok (.value v) w) {a' : Act} (ha : a.put oi.dst v = a')
    (h : Held P ops Q D S n (l.setIfInBounds i true) a' w) : Held P ops Q D S (n + 1) l a w := by
  subst ha
  exact Held.take hi hs hQ hS (.inl ⟨hw, hy⟩) h
/-- Number i, whose guard says no, is taken first. -/
theorem rg_skip (i : Nat) {oi : Oper} {n : Nat} {l : Array Bool} {a : Act} {w : World} (hi : ops[i]? = some oi)
    (hs : (Region.noSelect ops && Region.free .any ops l i && (Region.ready .any ops l).contains i && D.contains i) = true)
    (hQ : ∀ c a w, Q (.panic c) (a.put oi.dst undef) w → Q (.panic c) a w) (hS : S w) (hw : Region.wanted oi (yielded ops a.tmps) = false) {a' : Act} (ha : a.put oi.dst undef = a')
    (h : Held P ops Q D S n (l.setIfInBounds i true) a' w) : Held P ops Q D S (n + 1) l a w := by
  subst ha
  exact Held.take hi hs hQ hS (.inr ⟨hw, rfl⟩) h
/-- Number i, for which nobody waits, is taken first; it looks at no memory. -/
theorem rg_pure (i : Nat) {oi : Oper} {v : Value} {n : Nat} {l : Array Bool} {a : Act} {w : World} (hi : ops[i]? = some oi)
    (hs : (Region.noSelect ops && Region.free .any ops l i && (Region.ready .any ops l).contains i && !mayWait ops D i) = true)
    (hQ : ∀ c a w, Q (.panic c) (a.put oi.dst v) w → Q (.panic c) a w) (hw : Region.wanted oi (yielded ops a.tmps) = true)
    (hy : ∀ w, (execOp a.eval oi).run P w = .ok (.value v) w) {a' : Act} (ha : a.put oi.dst v = a')
    (h : Held P ops Q D S n (l.setIfInBounds i true) a' w) : Held P ops Q D S (n + 1) l a w := by
  subst ha
  simp only [Bool.and_eq_true, Bool.not_eq_true'] at hs
  exact Held.first (S' := fun _ => True) hi (fun _ _ _ _ _ _ _ => trivial) (fun _ _ hm => by rw [hs.2] at hm; cases hm) (Region.noSelect_spec hs.1.1.1) hQ n l a w (Region.free_spec hi hs.1.1.2) (by simpa using hs.1.2)
    (.inl ⟨hw, fun w _ => hy w⟩) trivial (fun hm => by rw [hs.2] at hm; cases hm) h
/-- The next of D that may be taken first. -/
def nextOf (ops : Array Oper) (D : List Nat) (l : Array Bool) : Nat := (D.find? fun i => (Region.ready .any ops l).contains i && Region.free .any ops l i).getD ops.size
theorem nextOf_spec {l : Array Bool} {oi : Oper} (h : ops[nextOf ops D l]? = some oi) : Region.free .any ops l (nextOf ops D l) = true ∧ (Region.ready .any ops l).contains (nextOf ops D l) = true ∧ nextOf ops D l ∈ D := by
  unfold nextOf at *
  cases hf : D.find? fun i => (Region.ready .any ops l).contains i && Region.free .any ops l i with
  | none => rw [hf] at h; simp at h
  | some i =>
    have h1 := List.find?_some hf
    simp only [Bool.and_eq_true] at h1
    exact ⟨h1.2, h1.1, List.mem_of_find?_eq_some hf⟩
theorem rg_next {oi : Oper} {v : Value} {n : Nat} {l : Array Bool} {a : Act} {w : World} (hS : S w) (hi : ops[nextOf ops D l]? = some oi) (hs : Region.noSelect ops = true)
    (hQ : ∀ c a w, Q (.panic c) (a.put oi.dst v) w → Q (.panic c) a w) (hw : Region.wanted oi (yielded ops a.tmps) = true)
    (hy : ∀ w, S w → (execOp a.eval oi).run P w = .ok (.value v) w) {a' : Act} (ha : a.put oi.dst v = a') {l' : Array Bool} (hl : l.setIfInBounds (nextOf ops D l) true = l')
    (h : Held P ops Q D S n l' a' w) : Held P ops Q D S (n + 1) l a w := by
  subst ha; subst hl
  obtain ⟨h1, h2, h3⟩ := nextOf_spec hi
  exact Held.take hi (by simp only [Bool.and_eq_true]; exact ⟨⟨⟨hs, h1⟩, h2⟩, by simpa using h3⟩) hQ hS (.inl ⟨hw, hy⟩) h
theorem rg_nskip {oi : Oper} {n : Nat} {l : Array Bool} {a : Act} {w : World} (hS : S w) (hi : ops[nextOf ops D l]? = some oi) (hs : Region.noSelect ops = true)
    (hQ : ∀ c a w, Q (.panic c) (a.put oi.dst undef) w → Q (.panic c) a w) (hw : Region.wanted oi (yielded ops a.tmps) = false) {a' : Act} (ha : a.put oi.dst undef = a') {l' : Array Bool} (hl : l.setIfInBounds (nextOf ops D l) true = l')
    (h : Held P ops Q D S n l' a' w) : Held P ops Q D S (n + 1) l a w := by
  subst ha; subst hl
  obtain ⟨h1, h2, h3⟩ := nextOf_spec hi
  exact Held.take hi (by simp only [Bool.and_eq_true]; exact ⟨⟨⟨hs, h1⟩, h2⟩, by simpa using h3⟩) hQ hS (.inr ⟨hw, rfl⟩) h
/-- Number i is the only one that may come up. -/
theorem rg_only (i : Nat) {o : Oper} {n : Nat} {l : Array Bool} {a : Act} {w : World} (hr : Region.ready .any ops l = [i]) (ho : ops[i]? = some o)
    (h : ∀ K : Act → World → Prop, (∀ a w, (mayWait ops D i = true → S w) ∧ Held P ops Q D S n (l.setIfInBounds i true) a w → K a w) →
      if Region.wanted o (yielded ops a.tmps) = true then Oper.wp P o a w K Q else K (a.put o.dst undef) w) : Held P ops Q D S (n + 1) l a w :=
  ⟨fun h0 => (by rw [h0] at hr; cases hr), fun j hj => by
    rw [hr, List.mem_singleton] at hj
    subst hj
    exact wpOp_step ho fun K hK => h K hK⟩
/-- .. and nobody waits any more. -/
theorem rg_free (i : Nat) {o : Oper} {n : Nat} {l : Array Bool} {a : Act} {w : World} (hr : Region.ready .any ops l = [i]) (hm : mayWait ops D i = false) (ho : ops[i]? = some o)
    (h : ∀ K : Act → World → Prop, (∀ a w, Held P ops Q D S n (l.setIfInBounds i true) a w → K a w) →
      if Region.wanted o (yielded ops a.tmps) = true then Oper.wp P o a w K Q else K (a.put o.dst undef) w) : Held P ops Q D S (n + 1) l a w :=
  rg_only i hr ho fun K hK => h K fun a w hh => hK a w ⟨fun h0 => (by rw [hm] at h0; cases h0), hh⟩
/-- The end. -/
theorem rg_done {l : Array Bool} {a : Act} {w : World} {n : Nat} (hr : Region.ready .any ops l = []) (h : Q .normal a w) : Held P ops Q D S n l a w := by
  cases n with
  | zero => exact ⟨hr, h⟩
  | succ n => exact ⟨fun _ => h, by rw [hr]; simp⟩
end
end Go.Proofs.Ytpknhpfbinplgaa
