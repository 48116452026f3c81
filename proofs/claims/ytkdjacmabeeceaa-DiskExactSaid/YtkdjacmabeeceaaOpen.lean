/-
Arguments opened: what a handed value reads as.
-/
import Derived.Test.YtkdjacmabeeceaaClone
import Derived.ProofKit
import Derived.Deep.Slices
namespace Go.Proofs.Ytkdjacmabeeceaa
open Go.ChangeShapes Go.WideShapes Go.ChangeAt Go.RowKit Go.Deep

variable {H : Type} {enc : TypeId × Value → H}

/-- Whatever a type's cells read as is an element of α. -/
def OpenAs (enc : TypeId × Value → H) (w : World) (t : TypeId) (α : Type) [Rp α] : Prop :=
  ∀ n cs x, DataW.trod enc Try.prog w 0 (fun _ => true) true n t cs = some x → ∃ a : α, Rp.E w noM cs a

theorem chain_elems {α : Type} [Rp α] {w : World} {b off : Nat} : ∀ (n : Nat), (∀ i, i < n → ∃ cs, ∃ a : α, Rp.E w noM cs a ∧ ∀ j u, cs[j]? = some u → w.cell? ⟨b, off + (i * Rp.sz α + j), none⟩ = some u) →
    ∃ (l : List α) (xs : List Value), l.length = n ∧ Elems (Rp.sz α) (Rp.E w noM) xs l ∧ ∀ j u, xs[j]? = some u → w.cell? ⟨b, off + j, none⟩ = some u
  | 0, _ => ⟨[], [], rfl, rfl, fun j u h => by simp at h⟩
  | n + 1, h => by
    obtain ⟨l, xs, hl, he, hc⟩ := chain_elems n (fun i hi => h i (by omega))
    obtain ⟨cs, a, hE, hcs⟩ := h n (by omega)
    refine ⟨l ++ [a], xs ++ cs, by simp [hl], he.append (Elems.one (Rp.len hE) hE), fun j u hu => ?_⟩
    have hlen := he.length
    rw [hl] at hlen
    by_cases hj : j < xs.length
    · rw [List.getElem?_append_left hj] at hu
      exact hc j u hu
    · rw [List.getElem?_append_right (by omega)] at hu
      have := hcs _ u hu
      rw [hlen] at this
      rw [show j = n * Rp.sz α + (j - n * Rp.sz α) by omega]
      exact this

theorem spot_none {w : World} {a : Addr} {u : Value} (h : w.cell? a = some u) : a.spot = none := by
  unfold World.cell? at h
  split at h
  · split at h
    · cases h
    · rename_i hn
      cases hs : a.spot with
      | none => rfl
      | some x => rw [hs] at hn; exact absurd rfl hn
  · cases h

theorem open_sl {α : Type} [Rp α] {w : World} {t e : TypeId} (ht : Try.prog.underlying t = some (.slice e)) (hsz : Try.prog.cellsOf e = Rp.sz α) (hel : OpenAs enc w e α) {n : Nat} {cs : List Value} {x : DataW H × List MemPlace}
    (h : DataW.trod enc Try.prog w 0 (fun _ => true) true n t cs = some x) : ∃ v, ∃ l : List α, cs = [v] ∧ SlR w noM v l := by
  rcases open_slice ht h with ⟨rfl, -⟩ | ⟨a, len, cap, m, n', D, Pl, rfl, -, hlc, hcm, hm, -, hel'⟩
  · exact ⟨_, [], rfl, none, 0, [], rfl, by simp, by simp [maxLen], rfl, fun h => absurd rfl h⟩
  · simp only [if_true] at hm
    subst hm
    obtain ⟨b, off, spot⟩ := a
    by_cases h0 : len = 0
    · subst h0
      exact ⟨_, [], rfl, _, m, [], rfl, by simp, hcm, rfl, fun h => absurd rfl h⟩
    · have hsp : spot = none := by
        obtain ⟨cs', hc, htr⟩ := hel' 0 (by omega)
        obtain ⟨a, hE⟩ := hel n' cs' _ htr
        obtain ⟨-, hl, hcell⟩ := World.cells?_some hc
        have hp := Rp.pos (α := α)
        have hle := Rp.len hE
        have := hcell 0 (by omega)
        rw [List.getElem?_eq_getElem (by omega)] at this
        simp only [Addr.add, Nat.zero_mul, if_true] at this
        exact spot_none this
      subst hsp
      have key : ∀ i, i < len → ∃ cs, ∃ a : α, Rp.E w noM cs a ∧ ∀ j u, cs[j]? = some u → w.cell? ⟨b, off + (i * Rp.sz α + j), none⟩ = some u := fun i hi => by
        obtain ⟨cs', hc, htr⟩ := hel' i (by omega)
        obtain ⟨a, hE⟩ := hel n' cs' _ htr
        refine ⟨cs', a, hE, fun j u hu => ?_⟩
        obtain ⟨-, hl, hcell⟩ := World.cells?_some hc
        have hj : j < Try.prog.cellsOf e := by rw [← hl]; exact (List.getElem?_eq_some_iff.1 hu).1
        have := (hcell j hj).trans hu
        rw [Addr.add_lit, Addr.add_lit, hsz, Nat.add_assoc] at this
        exact this
      obtain ⟨l, xs, hl, he, hc⟩ := chain_elems len key
      subst hl
      exact ⟨_, l, rfl, _, m, xs, rfl, hlc, hcm, he, fun _ => ⟨b, off, rfl, fun h => h, hc⟩⟩
theorem open_asSl {α : Type} [Rp α] {w : World} {t e : TypeId} (ht : Try.prog.underlying t = some (.slice e)) (hsz : Try.prog.cellsOf e = Rp.sz α) (hel : OpenAs enc w e α) : OpenAs enc w t (List α) := fun n cs x h => by
  obtain ⟨v, l, rfl, hs⟩ := open_sl ht hsz hel h
  exact ⟨l, e_list.2 hs⟩
theorem open_arg {α : Type} [Rp α] {w : World} {t e : TypeId} (ht : Try.prog.underlying t = some (.slice e)) (hsz : Try.prog.cellsOf e = Rp.sz α) (hel : OpenAs enc w e α) {v : Value} (hv : v.cells.toList = [v]) {d : DataW H} {ps : List MemPlace}
    (h : DataW.Trod enc Try.prog w 0 (fun _ => true) true t v d ps) : ∃ l : List α, SlR w noM v l := by
  obtain ⟨n, hn⟩ := h
  obtain ⟨v', l, e, hs⟩ := open_sl ht hsz hel hn
  rw [hv] at e
  injection e with e
  subst e
  exact ⟨l, hs⟩
theorem open_asInt {w : World} {t : TypeId} (ht : Try.prog.underlying t = some (.int .i64)) : OpenAs enc w t Int := fun n cs x h => by
  obtain ⟨k, rfl, -, -⟩ := DataW.trod_int ht h
  exact ⟨k, rfl⟩
end Go.Proofs.Ytkdjacmabeeceaa
