/-
Arguments opened: what a handed value reads as: locks, integers.
-/
import Derived.Test.YtombdkdidnoomaaLAt
import Derived.ProofKit
import Derived.Deep.Slices
namespace Go.Proofs.Ytombdkdidnoomaa
open Go.ChangeShapes Go.WideShapes Go.ChangeAt Go.RowKit Go.Deep

variable {H : Type} {enc : TypeId × Value → H}

/-- Whatever a type's cells read as is an element of α. -/
def OpenAs (enc : TypeId × Value → H) (w : World) (t : TypeId) (α : Type) [Rp α] (p : α → Prop) : Prop :=
  ∀ n cs x, DataW.trod enc Try.prog w 0 (fun _ => true) true n t cs = some x → ∃ a : α, Rp.E w noM cs a ∧ p a

theorem chain_elems {α : Type} [Rp α] {p : α → Prop} {w : World} {b off : Nat} : ∀ (n : Nat), (∀ i, i < n → ∃ cs, ∃ a : α, (Rp.E w noM cs a ∧ p a) ∧ ∀ j u, cs[j]? = some u → w.cell? ⟨b, off + (i * Rp.sz α + j), none⟩ = some u) →
    ∃ (l : List α) (xs : List Value), l.length = n ∧ (Elems (Rp.sz α) (Rp.E w noM) xs l ∧ ∀ a ∈ l, p a) ∧ ∀ j u, xs[j]? = some u → w.cell? ⟨b, off + j, none⟩ = some u
  | 0, _ => ⟨[], [], rfl, ⟨rfl, fun a h => by cases h⟩, fun j u h => by simp at h⟩
  | n + 1, h => by
    obtain ⟨l, xs, hl, ⟨he, hp⟩, hc⟩ := chain_elems n (fun i hi => h i (by omega))
    obtain ⟨cs, a, ⟨hE, hpa⟩, hcs⟩ := h n (by omega)
    refine ⟨l ++ [a], xs ++ cs, by simp [hl], ⟨he.append (Elems.one (Rp.len hE) hE), fun x hx => (List.mem_append.1 hx).elim (hp x) (fun h => by simp at h; rw [h]; exact hpa)⟩, fun j u hu => ?_⟩
    have hlen := he.length
    rw [hl] at hlen
    by_cases hj : j < xs.length
    · rw [List.getElem?_append_left hj] at hu
      exact hc j u hu
    · rw [List.getElem?_append_right (by omega)] at hu
      have := hcs _ u hu
      rw [hlen] at this
      rw [show j = n * Rp.sz α + (j - n * Rp.sz α) by omega]
      exact this

theorem spot_none {w : World} {a : Addr} {u : Value} (h : w.cell? a = some u) : a.spot = none := by
  unfold World.cell? at h
  split at h
  · split at h
    · cases h
    · rename_i hn
      cases hs : a.spot with
      | none => rfl
      | some x => rw [hs] at hn; exact absurd rfl hn
  · cases h

theorem open_sl {α : Type} [Rp α] {p : α → Prop} {w : World} {t e : TypeId} (ht : Try.prog.underlying t = some (.slice e)) (hsz : Try.prog.cellsOf e = Rp.sz α) (hel : OpenAs enc w e α p) {n : Nat} {cs : List Value} {x : DataW H × List MemPlace}
    (h : DataW.trod enc Try.prog w 0 (fun _ => true) true n t cs = some x) : ∃ v, ∃ l : List α, cs = [v] ∧ SlR w noM v l ∧ ∀ a ∈ l, p a := by
  rcases open_slice ht h with ⟨rfl, -⟩ | ⟨a, len, cap, m, n', D, Pl, rfl, -, hlc, hcm, hm, -, hel'⟩
  · exact ⟨_, [], rfl, ⟨none, 0, [], rfl, by simp, by simp [maxLen], rfl, fun h => absurd rfl h⟩, fun a h => by cases h⟩
  · simp only [if_true] at hm
    subst hm
    obtain ⟨b, off, spot⟩ := a
    by_cases h0 : len = 0
    · subst h0
      exact ⟨_, [], rfl, ⟨_, m, [], rfl, by simp, hcm, rfl, fun h => absurd rfl h⟩, fun a h => by cases h⟩
    · have hsp : spot = none := by
        obtain ⟨cs', hc, htr⟩ := hel' 0 (by omega)
        obtain ⟨a, hE, _⟩ := hel n' cs' _ htr
        obtain ⟨-, hl, hcell⟩ := World.cells?_some hc
        have hp := Rp.pos (α := α)
        have hle := Rp.len hE
        have := hcell 0 (by omega)
        rw [List.getElem?_eq_getElem (by omega)] at this
        simp only [Addr.add, Nat.zero_mul, if_true] at this
        exact spot_none this
      subst hsp
      have key : ∀ i, i < len → ∃ cs, ∃ a : α, (Rp.E w noM cs a ∧ p a) ∧ ∀ j u, cs[j]? = some u → w.cell? ⟨b, off + (i * Rp.sz α + j), none⟩ = some u := fun i hi => by
        obtain ⟨cs', hc, htr⟩ := hel' i (by omega)
        obtain ⟨a, hE, hpa⟩ := hel n' cs' _ htr
        refine ⟨cs', a, ⟨hE, hpa⟩, fun j u hu => ?_⟩
        obtain ⟨-, hl, hcell⟩ := World.cells?_some hc
        have hj : j < Try.prog.cellsOf e := by rw [← hl]; exact (List.getElem?_eq_some_iff.1 hu).1
        have := (hcell j hj).trans hu
        rw [Addr.add_lit, Addr.add_lit, hsz, Nat.add_assoc] at this
        exact this
      obtain ⟨l, xs, hl, ⟨he, hpl⟩, hc⟩ := chain_elems len key
      subst hl
      exact ⟨_, l, rfl, ⟨_, m, xs, rfl, hlc, hcm, he, fun _ => ⟨b, off, rfl, fun h => h, hc⟩⟩, hpl⟩
theorem open_arg {α : Type} [Rp α] {p : α → Prop} {w : World} {t e : TypeId} (ht : Try.prog.underlying t = some (.slice e)) (hsz : Try.prog.cellsOf e = Rp.sz α) (hel : OpenAs enc w e α p) {v : Value} (hv : v.cells.toList = [v]) {d : DataW H} {ps : List MemPlace}
    (h : DataW.Trod enc Try.prog w 0 (fun _ => true) true t v d ps) : ∃ l : List α, SlR w noM v l ∧ ∀ a ∈ l, p a := by
  obtain ⟨n, hn⟩ := h
  obtain ⟨v', l, e, hs, hp⟩ := open_sl ht hsz hel hn
  rw [hv] at e
  injection e with e
  subst e
  exact ⟨l, hs, hp⟩
theorem int_max {k : Int} (h : (Lit.int .i64 k).wf = true) : k ≤ mI := by
  have h2 : IntKind.i64.min ≤ k ∧ k ≤ IntKind.i64.max := by
    simp only [Lit.wf, Bool.and_eq_true, decide_eq_true_eq] at h
    exact h
  have e2 : IntKind.i64.max = 9223372036854775807 := by decide
  show k ≤ 9223372036854775807
  omega
theorem open_asInt {w : World} {t : TypeId} (ht : Try.prog.underlying t = some (.int .i64)) : OpenAs enc w t Int (fun k => k ≤ mI) := fun n cs x h => by
  obtain ⟨k, rfl, -, hw⟩ := DataW.trod_int ht h
  exact ⟨k, rfl, int_max hw⟩
theorem cells1 : Try.prog.cellsOf 3 = 1 := by kernel_rfl
theorem cells37 : Try.prog.cellsOf 37 = 1 := by kernel_rfl
theorem cells39 : Try.prog.cellsOf 39 = 3 := by kernel_rfl
theorem open_lk {w : World} : OpenAs enc w 39 Lk (fun x => x.lba ≤ mI) := fun n cs x h => by
  obtain ⟨xs, n', _, rfl, hl, hlen, hf⟩ := DataW.trod_struct Try.underlying39 h
  have hl3 : cs.length = 3 := hl.trans cells39
  obtain ⟨c0, c1, c2, rfl⟩ : ∃ c0 c1 c2, cs = [c0, c1, c2] := by
    match cs, hl3 with
    | [a, b, c], _ => exact ⟨a, b, c, rfl⟩
  obtain ⟨y0, y1, y2, rfl⟩ : ∃ y0 y1 y2, xs = [y0, y1, y2] := by
    match xs, hlen with
    | [a, b, c], _ => exact ⟨a, b, c, rfl⟩
  have h0 : DataW.trod enc Try.prog w 0 (fun _ => true) true n' 3 (([c0, c1, c2].drop 0).take (Try.prog.cellsOf 3)) = some y0 := hf 0 _ rfl
  have h1 : DataW.trod enc Try.prog w 0 (fun _ => true) true n' 37 (([c0, c1, c2].drop 1).take (Try.prog.cellsOf 37)) = some y1 := hf 1 _ rfl
  have h2 : DataW.trod enc Try.prog w 0 (fun _ => true) true n' 3 (([c0, c1, c2].drop 2).take (Try.prog.cellsOf 3)) = some y2 := hf 2 _ rfl
  rw [cells1] at h0 h2
  rw [cells37] at h1
  obtain ⟨k, e0, -, hw⟩ := DataW.trod_int Try.underlying3 h0
  obtain ⟨v1, l1, e1, s1, -⟩ := open_sl (α := Int) Try.underlying37 cells1 (open_asInt Try.underlying3) h1
  obtain ⟨k2, e2, -, -⟩ := DataW.trod_int Try.underlying3 h2
  simp at e0 e1 e2
  subst e0 e1 e2
  exact ⟨⟨k, l1, k2⟩, ⟨_, rfl, s1⟩, int_max hw⟩
end Go.Proofs.Ytombdkdidnoomaa
