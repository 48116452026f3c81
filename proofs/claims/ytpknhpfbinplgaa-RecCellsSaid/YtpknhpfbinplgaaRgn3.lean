/-
Plain laws on a statement whose order Go leaves open, the second form: what may still be waiting must be kept only as far as it stood; what only computes asks nothing.
-/
import Derived.Test.YtpknhpfbinplgaaRgn2
namespace Go.Proofs.Ytpknhpfbinplgaa

section
variable {P : Program} {ops : Array Oper} {Q : Exit → Act → World → Prop} {D : List Nat} {S : World → Prop}

def HeldP (P : Program) (ops : Array Oper) (Q : Exit → Act → World → Prop) (D : List Nat) (S : World → Prop) : Nat → Array Bool → Act → World → Prop
  | 0, l, a, w => Region.ready .any ops l = [] ∧ Q .normal a w
  | n + 1, l, a, w => (Region.ready .any ops l = [] → Q .normal a w) ∧
      ∀ i ∈ Region.ready .any ops l, wpOp P ops Q i (fun a' w' => (mayWait ops D i = true → S w → S w') ∧ HeldP P ops Q D S n (l.setIfInBounds i true) a' w') a w

theorem HeldP.any : ∀ (n : Nat) (l : Array Bool) (a : Act) (w : World), HeldP P ops Q D S n l a w → wpAny P .any ops Q n l a w
  | 0, _, _, _, h => h
  | n + 1, _, _, _, h => ⟨h.1, fun i hi => wpOp_mono (fun a' w' h' => HeldP.any n _ a' w' h'.2) (h.2 i hi)⟩

theorem HeldP.first {S' : World → Prop} {i : Nat} {oi : Oper} {v : Value} (hi : ops[i]? = some oi)
    (hD : ∀ (j : Nat) (oj : Oper) (w w' : World), ops[j]? = some oj → j ≠ i → (∀ e ∈ oj.after, Region.binds .any e = true → e.on ≠ i) → (mayWait ops D j = true → S w → S w') → S' w → S' w')
    (hsel : ∀ (j : Nat) (o : Oper) cs b, ops[j]? = some o → o.op ≠ .select cs b)
    (hQ : ∀ c a w, Q (.panic c) (a.put oi.dst v) w → Q (.panic c) a w) : ∀ (n : Nat) (l : Array Bool) (a : Act) (w : World),
      (∀ j oj, ops[j]? = some oj → j ≠ i → l.getD j true = false → (∀ e ∈ oj.after, Region.binds .any e = true → e.on ≠ i) → oi.apart ops oj = true) →
      i ∈ Region.ready .any ops l → YieldsIf P ops S' oi v a → S' w → HeldP P ops Q D S n (l.setIfInBounds i true) (a.put oi.dst v) w → HeldP P ops Q D S (n + 1) l a w := by
  intro n
  induction n with
  | zero =>
    intro l a w _ hr hy hS H
    refine ⟨fun h => (by rw [h] at hr; cases hr), fun j hj => ?_⟩
    by_cases hji : j = i
    · subst hji; exact hy.wpOp hi hS ⟨fun _ h => h, H⟩
    · have h1 := ready_mono hj hji
      rw [H.1] at h1
      cases h1
  | succ n ih =>
    intro l a w hfree hr hy hS H
    refine ⟨fun h => (by rw [h] at hr; cases hr), fun j hj => ?_⟩
    by_cases hji : j = i
    · subst hji; exact hy.wpOp hi hS ⟨fun _ h => h, H⟩
    have h1 := H.2 j (ready_mono hj hji)
    obtain ⟨hjun, oj, hoj, hall⟩ := mem_ready.1 hj
    have hnot : ∀ e ∈ oj.after, Region.binds .any e = true → e.on ≠ i := fun e he hb heq => by
      have h2 := hall e he hb
      have h3 := (mem_ready.1 hr).1
      rw [heq] at h2
      rcases Nat.lt_or_ge i l.size with h' | h'
      · simp [h'] at h2 h3; rw [h3] at h2; cases h2
      · simp [Array.getElem?_eq_none h'] at h2
    have h2 := wpOp_putIf hoj (hfree j oj hoj hji hjun hnot) (fun cs b => hsel i oi cs b hi) (fun cs b => hsel j oj cs b hoj) hQ hy h1
    refine wpOp_mono (fun a' w' h3 => ⟨h3.2.1, ih (l.setIfInBounds j true) a' w' (fun k ok hk hki hun hno => ?_) (ready_mono hr (Ne.symm hji)) h3.1 (hD j oj w w' hoj hji hnot h3.2.1 hS) ?_⟩) h2
    · refine hfree k ok hk hki ?_ hno
      by_cases hjk : j = k
      · subst hjk; exact hjun
      · rw [getD_set_ne true hjk] at hun; exact hun
    · rw [Array.setIfInBounds_comm _ _ hji]
      exact h3.2.2

theorem rp_enter (D : List Nat) (S : World → Prop) {id : Nat} {a : Act} {w : World} (hm : P.follows .mixedOrders = true)
    (h : HeldP P ops Q D S ops.size (Array.replicate ops.size false) a w.drew) : (Code.region id ops true).wp P Q a w :=
  wp_region_any hm (HeldP.any _ _ _ _ h)
theorem rp_take (i : Nat) {oi : Oper} {v : Value} {n : Nat} {l : Array Bool} {a : Act} {w : World} (hi : ops[i]? = some oi)
    (hs : (Region.noSelect ops && Region.free .any ops l i && (Region.ready .any ops l).contains i && D.contains i) = true)
    (hQ : ∀ c a w, Q (.panic c) (a.put oi.dst v) w → Q (.panic c) a w) (hS : S w) (hw : Region.wanted oi (yielded ops a.tmps) = true)
    (hy : ∀ w, S w → (execOp a.eval oi).run P w = .ok (.value v) w) {a' : Act} (ha : a.put oi.dst v = a')
    (h : HeldP P ops Q D S n (l.setIfInBounds i true) a' w) : HeldP P ops Q D S (n + 1) l a w := by
  subst ha
  simp only [Bool.and_eq_true] at hs
  exact HeldP.first (S' := S) hi (fun j oj w w' hj hne hno hm hS => hm (mayWait_of (by simpa using hs.2) hj hne hno) hS) (Region.noSelect_spec hs.1.1.1) hQ n l a w (Region.free_spec hi hs.1.1.2) (by simpa using hs.1.2) (.inl ⟨hw, hy⟩) hS h
theorem rp_skip (i : Nat) {oi : Oper} {n : Nat} {l : Array Bool} {a : Act} {w : World} (hi : ops[i]? = some oi)
    (hs : (Region.noSelect ops && Region.free .any ops l i && (Region.ready .any ops l).contains i) = true)
    (hQ : ∀ c a w, Q (.panic c) (a.put oi.dst undef) w → Q (.panic c) a w) (hw : Region.wanted oi (yielded ops a.tmps) = false) {a' : Act} (ha : a.put oi.dst undef = a')
    (h : HeldP P ops Q D S n (l.setIfInBounds i true) a' w) : HeldP P ops Q D S (n + 1) l a w := by
  subst ha
  simp only [Bool.and_eq_true] at hs
  exact HeldP.first (S' := fun _ => True) hi (fun _ _ _ _ _ _ _ _ _ => trivial) (Region.noSelect_spec hs.1.1) hQ n l a w (Region.free_spec hi hs.1.2) (by simpa using hs.2) (.inr ⟨hw, rfl⟩) trivial h
theorem rp_pure (i : Nat) {oi : Oper} {v : Value} {n : Nat} {l : Array Bool} {a : Act} {w : World} (hi : ops[i]? = some oi)
    (hs : (Region.noSelect ops && Region.free .any ops l i && (Region.ready .any ops l).contains i) = true)
    (hQ : ∀ c a w, Q (.panic c) (a.put oi.dst v) w → Q (.panic c) a w) (hw : Region.wanted oi (yielded ops a.tmps) = true)
    (hy : ∀ w, (execOp a.eval oi).run P w = .ok (.value v) w) {a' : Act} (ha : a.put oi.dst v = a')
    (h : HeldP P ops Q D S n (l.setIfInBounds i true) a' w) : HeldP P ops Q D S (n + 1) l a w := by
  subst ha
  simp only [Bool.and_eq_true] at hs
  exact HeldP.first (S' := fun _ => True) hi (fun _ _ _ _ _ _ _ _ _ => trivial) (Region.noSelect_spec hs.1.1) hQ n l a w (Region.free_spec hi hs.1.2) (by simpa using hs.2) (.inl ⟨hw, fun w _ => hy w⟩) trivial h
theorem rp_only (i : Nat) {o : Oper} {n : Nat} {l : Array Bool} {a : Act} {w : World} (hr : Region.ready .any ops l = [i]) (ho : ops[i]? = some o)
    (h : ∀ K : Act → World → Prop, (∀ a w', (mayWait ops D i = true → S w → S w') ∧ HeldP P ops Q D S n (l.setIfInBounds i true) a w' → K a w') →
      if Region.wanted o (yielded ops a.tmps) = true then Oper.wp P o a w K Q else K (a.put o.dst undef) w) : HeldP P ops Q D S (n + 1) l a w :=
  ⟨fun h0 => (by rw [h0] at hr; cases hr), fun j hj => by
    rw [hr, List.mem_singleton] at hj
    subst hj
    exact wpOp_step ho fun K hK => h K hK⟩
theorem rp_free (i : Nat) {o : Oper} {n : Nat} {l : Array Bool} {a : Act} {w : World} (hr : Region.ready .any ops l = [i]) (hm : mayWait ops D i = false) (ho : ops[i]? = some o)
    (h : ∀ K : Act → World → Prop, (∀ a w', HeldP P ops Q D S n (l.setIfInBounds i true) a w' → K a w') →
      if Region.wanted o (yielded ops a.tmps) = true then Oper.wp P o a w K Q else K (a.put o.dst undef) w) : HeldP P ops Q D S (n + 1) l a w :=
  rp_only i hr ho fun K hK => h K fun a w hh => hK a w ⟨fun h0 => (by rw [hm] at h0; cases h0), hh⟩
theorem rp_two (i j : Nat) {oi oj : Oper} {n : Nat} {l : Array Bool} {a : Act} {w : World} (hr : Region.ready .any ops l = [i, j]) (hi : ops[i]? = some oi) (hj : ops[j]? = some oj)
    (h1 : ∀ K : Act → World → Prop, (∀ a w', (mayWait ops D i = true → S w → S w') ∧ HeldP P ops Q D S n (l.setIfInBounds i true) a w' → K a w') →
      if Region.wanted oi (yielded ops a.tmps) = true then Oper.wp P oi a w K Q else K (a.put oi.dst undef) w)
    (h2 : ∀ K : Act → World → Prop, (∀ a w', (mayWait ops D j = true → S w → S w') ∧ HeldP P ops Q D S n (l.setIfInBounds j true) a w' → K a w') →
      if Region.wanted oj (yielded ops a.tmps) = true then Oper.wp P oj a w K Q else K (a.put oj.dst undef) w) : HeldP P ops Q D S (n + 1) l a w :=
  ⟨fun h0 => (by rw [h0] at hr; cases hr), fun k hk => by
    rw [hr] at hk
    simp only [List.mem_cons, List.not_mem_nil, or_false] at hk
    rcases hk with rfl | rfl
    · exact wpOp_step hi fun K hK => h1 K hK
    · exact wpOp_step hj fun K hK => h2 K hK⟩
theorem rp_done {l : Array Bool} {a : Act} {w : World} {n : Nat} (hr : Region.ready .any ops l = []) (h : Q .normal a w) : HeldP P ops Q D S n l a w := by
  cases n with
  | zero => exact ⟨hr, h⟩
  | succ n => exact ⟨fun _ => h, by rw [hr]; simp⟩
end
end Go.Proofs.Ytpknhpfbinplgaa
