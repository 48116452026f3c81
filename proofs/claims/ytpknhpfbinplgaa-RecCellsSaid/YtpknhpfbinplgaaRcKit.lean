/-
Laws on rows and slices that the packages below use: of two types, of elements that own nothing, cut, stored into.
-/
import Derived.Test.YtpknhpfbinplgaaRcGet2
namespace Go.Proofs.Ytpknhpfbinplgaa
open Go.RowKit

abbrev OM (M : Ms) (v : Value) : Ms := fun b => M b ∨ v.ownBlock = some b
theorem OwR.own_ne {α β : Type} [Rp α] [Rp β] {w : World} {M1 M2 : Ms} {n1 n2 : Nat} {e1 e2 : TypeId} {v1 v2 : Value} {l1 : List α} {l2 : List β} (h1 : OwR w M1 n1 e1 v1 l1) (h2 : OwR w M2 n2 e2 v2 l2) (hne : e1 ≠ e2) :
    v2.ownBlock = none ∨ v2.ownBlock ≠ v1.ownBlock := by
  obtain ⟨xs, ho', _⟩ := h1
  obtain ⟨ys, ho'', _⟩ := h2
  rcases ho''.2 with ⟨rfl, _⟩ | ⟨g2, cap2, cur2, rfl, _, hh2, _⟩
  · exact .inl (by simp [Value.ownBlock])
  · refine .inr fun e => ?_
    rcases ho'.2 with ⟨rfl, _⟩ | ⟨g1, cap, cur, rfl, _, hh, _⟩
    · simp [Value.ownBlock] at e
    · simp [Value.ownBlock] at e
      subst e
      rw [hh] at hh2
      injection hh2 with hh2
      injection hh2 with _ ht
      exact hne ht
/-- A row that is newer than another one is not it. -/
theorem OwR.own_new {α β : Type} [Rp α] [Rp β] {w w' : World} {M1 M2 : Ms} {n1 : Nat} {e1 e2 : TypeId} {v1 v2 : Value} {l1 : List α} {l2 : List β} (h1 : OwR w M1 n1 e1 v1 l1) (h2 : OwR w' M2 w.heap.size e2 v2 l2) :
    v2.ownBlock = none ∨ v2.ownBlock ≠ v1.ownBlock := by
  cases h : v2.ownBlock with
  | none => exact .inl rfl
  | some g =>
    refine .inr fun e => ?_
    have a := h2.own_ge h
    have b := h1.own_lt e.symm
    omega
theorem OwR.own_old {α β : Type} [Rp α] [Rp β] {w w' : World} {M1 M2 : Ms} {n1 : Nat} {e1 e2 : TypeId} {v1 v2 : Value} {l1 : List α} {l2 : List β} (h1 : OwR w M1 n1 e1 v1 l1) (h2 : OwR w' M2 w.heap.size e2 v2 l2) :
    v1.ownBlock = none ∨ v1.ownBlock ≠ v2.ownBlock := by
  cases h : v1.ownBlock with
  | none => exact .inl rfl
  | some g =>
    refine .inr fun e => ?_
    have a := h2.own_ge e.symm
    have b := h1.own_lt h
    omega
abbrev Plain (α : Type) [Rp α] : Prop := ∀ w M w' M' cs (x : α), Rp.E w M cs x → Rp.E w' M' cs x
theorem plU : Plain UInt8 := fun _ _ _ _ _ _ h => h
theorem plI : Plain Int := fun _ _ _ _ _ _ h => h
theorem plO : Plain Bool := fun _ _ _ _ _ _ h => h
theorem plE : Plain Ent := fun _ _ _ _ _ _ h => h
section
variable {α : Type} [Rp α] {w w' : World} {M M' : Ms} {base : Nat} {e : TypeId} {v : Value} {l : List α}
theorem OwR.pl (hp : Plain α) (h : OwR w M base e v l) : OwR w M' base e v l := OwR.plain (fun _ _ _ _ _ h => hp _ _ _ _ _ _ h) h
theorem OwR.keptP (hp : Plain α) {row : Option Nat} (h : OwR w M base e v l) (hg : w.grownBy w' row) (hne : v.ownBlock = none ∨ v.ownBlock ≠ row) : OwR w' M base e v l :=
  OwR.pl (M := fun _ => True) hp ((OwR.pl hp h).kept hg hne fun _ _ => trivial)
theorem OwR.setP (hp : Plain α) (h : OwR w M base e v l) {p : Addr} (hne : v.ownBlock ≠ some p.block) (u : Value) : OwR (w.setCell p u) M base e v l :=
  OwR.pl (M := fun _ => True) hp ((OwR.pl hp h).setCell hne trivial u)
/-- A row of the call's own read as a slice, if what may be written is not it. -/
theorem OwR.sl' (h : OwR w M base e v l) (hM : ∀ b, v.ownBlock = some b → ¬ M b) : SlR w M v l := by
  obtain ⟨xs, ho, he⟩ := h
  have he' : Elems (Rp.sz α) (Rp.E w M) xs l := he.mono fun cs x _ => Rp.mono fun b _ hb => ⟨fun hm => hb (.inl hm), rfl⟩
  rcases ho.2 with ⟨rfl, hn⟩ | ⟨g, cap, cur, rfl, hb, hg, hnc, hcm, hcs, ht⟩
  · have : l = [] := List.eq_nil_of_length_eq_zero hn
    subst this
    exact ⟨none, 0, xs, rfl, by simp, by simp [maxLen], he', fun h => absurd rfl h⟩
  · refine ⟨_, cap, xs, rfl, hnc, hcm, he', fun _ => ⟨g, 0, rfl, hM g rfl, fun j u hu => ?_⟩⟩
    have := ho.cells (g := g) rfl j u hu
    rwa [Addr.add_lit] at this
end
theorem Elems.take_ {α : Type} {sz : Nat} {E : List Value → α → Prop} : ∀ {l : List α} {xs : List Value} (i : Nat), Elems sz E xs l → i ≤ l.length → Elems sz E (xs.take (i * sz)) (l.take i)
  | l, xs, 0, _, _ => by simp [Elems]
  | x :: l, _, i + 1, ⟨cs, ys, e, hc, he, hy⟩, hi => by
    subst e
    have e1 : (i + 1) * sz = cs.length + i * sz := by rw [hc, Nat.add_mul]; omega
    rw [e1, List.take_append, List.take_of_length_le (by omega), List.take_succ_cons]
    rw [show cs.length + i * sz - cs.length = i * sz by omega]
    exact ⟨cs, _, rfl, hc, he, Elems.take_ i hy (by simpa using hi)⟩
  | [], xs, i + 1, h, hi => by simp at hi
theorem SlR.take_ {α : Type} [Rp α] {w : World} {M : Ms} {a : Option Addr} {n c i : Nat} {l : List α} (h : SlR w M (.slice a n c) l) (hi : i ≤ l.length) : SlR w M (.slice a i c) (l.take i) := by
  obtain ⟨a', c', xs, e, h1, h2, h3, h4⟩ := h
  cases e
  have hl : (l.take i).length = i := by rw [List.length_take]; omega
  refine ⟨a, c, xs.take (i * Rp.sz α), by rw [hl], by omega, h2, h3.take_ i hi, fun hne => ?_⟩
  obtain ⟨b, off, e, hm, hc⟩ := h4 (by intro e; rw [e] at hne; simp at hne)
  refine ⟨b, off, e, hm, fun j u hu => hc j u ?_⟩
  rw [List.getElem?_take] at hu
  split at hu
  · exact hu
  · cases hu
theorem SlR.dropN {α : Type} [Rp α] {w : World} {M : Ms} {n c : Nat} {l : List α} (h : SlR w M (.slice none n c) l) : l = [] ∧ n = 0 := by
  obtain ⟨a', c', xs, e, h1, h2, h3, h4⟩ := h
  cases e
  by_cases hl : l = []
  · subst hl; exact ⟨rfl, rfl⟩
  · obtain ⟨b, off, e, _⟩ := h4 hl; cases e
theorem grownBy_set (w : World) (g i : Nat) (u : Value) : w.grownBy (w.setCell ⟨g, i, none⟩ u) (some g) :=
  ⟨rfl, rfl, rfl, by simp, fun k _ hne => Below.heap_setCell _ _ _ _ (fun e => hne (by rw [e]))⟩
theorem grownBy_trans {a b c : World} {r : Option Nat} (h : a.grownBy b r) (k : b.grownBy c r) : a.grownBy c r :=
  ⟨k.os.trans h.os, k.tape.trans h.tape, k.output.trans h.output, Nat.le_trans h.size k.size, fun i hi hne => (k.block i (Nat.lt_of_lt_of_le hi h.size) hne).trans (h.block i hi hne)⟩
/-- One value of an owned row's element stored anew. -/
theorem OwR.setF {α : Type} [Rp α] {w : World} {M : Ms} {base g c j f : Nat} {e : TypeId} {n : Nat} {l : List α} (h : OwR w M base e (.slice (some ⟨g, 0, none⟩) n c) l) (hj : j < l.length) (hf : f < Rp.sz α) (u : Value) (y : α)
    (hE : ∀ cs, Rp.E w (OM M (.slice (some ⟨g, 0, none⟩) n c)) cs l[j] → Rp.E w (OM M (.slice (some ⟨g, 0, none⟩) n c)) (cs.set f u) y) :
    OwR (w.setCell ⟨g, j * Rp.sz α + f, none⟩ u) M base e (.slice (some ⟨g, 0, none⟩) n c) (l.set j y) := by
  have hgr := grownBy_set w g (j * Rp.sz α + f) u
  obtain ⟨A', c', hv⟩ := h.form
  simp only [Value.slice.injEq] at hv
  obtain ⟨-, hnl, -⟩ := hv
  subst hnl
  obtain ⟨xs, ho, he⟩ := h
  have s1 := (ho.stored (j * Rp.sz α + f) u).1
  obtain ⟨cs, hcl, hEcs, hcj⟩ := he.get (List.getElem?_eq_getElem hj)
  have hkeep : Keep w (OM M (.slice (some ⟨g, 0, none⟩) l.length c)) (w.setCell ⟨g, j * Rp.sz α + f, none⟩ u) (OM M (.slice (some ⟨g, 0, none⟩) l.length c)) :=
    fun b hb hm => ⟨hm, hgr.block b hb (fun e => hm (.inr (by simpa [Value.ownBlock] using e.symm)))⟩
  have hlen := he.length
  have hlt : j * Rp.sz α + Rp.sz α ≤ xs.length := by
    have : (j + 1) * Rp.sz α ≤ l.length * Rp.sz α := Nat.mul_le_mul_right _ hj
    rw [Nat.succ_mul] at this
    omega
  have hp := Elems.put (xs' := xs.set (j * Rp.sz α + f) u) (y := y) (cs := cs.set f u) (he.mono fun cs x _ => Rp.mono hkeep) hj (by simp)
    (fun i hi => List.getElem?_set_ne (by omega)) (by simp [hcl]) (Rp.mono hkeep (hE cs hEcs)) (fun i hi => by
      by_cases hif : f = i
      · subst hif; rw [List.getElem?_set_self (by omega), List.getElem?_set_self (by omega)]
      · rw [List.getElem?_set_ne (by omega), List.getElem?_set_ne hif]; exact hcj i hi)
  exact ⟨_, by rw [List.length_set]; exact s1, hp⟩
theorem OwR.setI {w : World} {M : Ms} {base g c j n : Nat} {e : TypeId} {l : List Int} (h : OwR w M base e (.slice (some ⟨g, 0, none⟩) n c) l) (hj : j < l.length) (y : Int) :
    OwR (w.setCell ⟨g, j, none⟩ (.int .i64 y)) M base e (.slice (some ⟨g, 0, none⟩) n c) (l.set j y) := by
  have := h.setF hj (f := 0) (show 0 < 1 by omega) (.int .i64 y) y (fun cs hcs => by
    have hcs' : cs = [.int .i64 l[j]] := hcs
    subst hcs'
    rfl)
  rwa [show j * Rp.sz Int + 0 = j by show j * 1 + 0 = j; omega] at this
/-- A literal of numbers. -/
theorem OwR.litI (w : World) (M : Ms) (l : List Int) (hl : l.length ≤ 1000) : OwR (w.alloc (.cells (l.map (Value.int .i64)).toArray 3)) M w.heap.size 3 (.slice (some ⟨w.heap.size, 0, none⟩) l.length l.length) l := by
  refine ⟨l.map (Value.int .i64), ⟨by simp [Rp.sz], .inr ⟨w.heap.size, l.length, _, rfl, Nat.le_refl _, heap_alloc_new w _, Nat.le_refl _, by unfold maxLen; omega, by simp [Rp.sz], ?_⟩⟩, ?_⟩
  · simp only [Rp.sz, Nat.mul_one]
    exact List.take_of_length_le (by simp)
  · clear hl
    induction l with
    | nil => rfl
    | cons x l ih => exact ⟨[.int .i64 x], _, rfl, rfl, rfl, ih⟩
end Go.Proofs.Ytpknhpfbinplgaa
