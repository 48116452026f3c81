/-
The reference: the table that bytes are.
-/
import Derived.Test.YtpknhpfbinplgaaRfGet
namespace Go.Proofs.Ytpknhpfbinplgaa
open Go.RowKit
attribute [local go_sem ↓] Go.wp_at_zero Go.wp_at_succ

/-- What nine bytes say of being lost. -/
def lostV (x : List UInt8) : Int := (nums [4, 4, 1] x).getD 2 0
def lostAll (n : Nat) (b : List UInt8) : Prop := ∀ i, i < n → lostV (b.drop (9 * i)) ≤ 1
theorem lostV_at {x : List UInt8} (h : 9 ≤ x.length) : lostV x = (x[8].toNat : Int) := by
  have e : (x.drop 8).take 1 = [x[8]] := by
    rw [List.drop_eq_getElem_cons (by omega)]
    rfl
  show (((leN (((x.drop (Int.toNat 4)).drop (Int.toNat 4)).take (Int.toNat 1)) : Nat) : Int)) = _
  rw [List.drop_drop]
  show (((leN ((x.drop 8).take 1) : Nat) : Int)) = _
  rw [e]
  simp [leN]
theorem entB_iff {x : List UInt8} (h : 9 ≤ x.length) : entB (entOf x) = x.take 9 ↔ lostV x ≤ 1 := by
  obtain ⟨a, b, c, hn, he⟩ := nums3 x
  have hl : lostV x = c := by simp [lostV, hn]
  have hr := rowB_nums [4, 4, 1] x (by simpa [tot] using h)
  rw [hn] at hr
  have hf := nums_fit [4, 4, 1] x (by decide)
  rw [hl, he]
  constructor
  · intro e
    have h9 : (x.take 9).length = 9 := by rw [List.length_take]; omega
    have e2 : rowB [a, b, lostN (c == 1)] [4, 4, 1] = rowB [a, b, c] [4, 4, 1] := by
      rw [hr]
      exact e
    have f0 := hf 0 (by rw [hn]; simp) (by simp)
    have f1 := hf 1 (by rw [hn]; simp) (by simp)
    have f2 := hf 2 (by rw [hn]; simp) (by simp)
    simp only [hn] at f0 f1 f2
    have n1 := nums_rowB [a, b, lostN (c == 1)] [4, 4, 1] [] rfl (by
      intro k h1 _
      match k, h1 with
      | 0, _ => exact f0
      | 1, _ => exact f1
      | 2, _ => exact ⟨.inl rfl, by show 0 ≤ lostN _; unfold lostN; split <;> decide, by show lostN _ < limS 1; unfold lostN; split <;> decide⟩)
    have n2 := nums_rowB [a, b, c] [4, 4, 1] [] rfl (by
      intro k h1 _
      match k, h1 with
      | 0, _ => exact f0
      | 1, _ => exact f1
      | 2, _ => exact f2)
    rw [e2, n2] at n1
    injection n1 with _ n1
    injection n1 with _ n1
    injection n1 with n1
    rw [n1]
    unfold lostN
    split <;> decide
  · intro hc
    have f2 := hf 2 (by rw [hn]; simp) (by simp)
    simp only [hn] at f2
    have hc0 : 0 ≤ c := f2.2.1
    have : lostN (c == 1) = c := by
      unfold lostN
      by_cases h1 : c = 1
      · simp [h1]
      · have : c = 0 := by omega
        simp [this]
    show rowB [a, b, lostN (c == 1)] [4, 4, 1] = x.take 9
    rw [this, hr]
    rfl
theorem tblB_iff : ∀ (n : Nat) (b : List UInt8), 9 * n ≤ b.length → (tblB (entsOf n b) = b.take (9 * n) ↔ lostAll n b)
  | 0, b, _ => ⟨fun _ i hi => absurd hi (Nat.not_lt_zero _), fun _ => by simp [entsOf, tblB]⟩
  | n + 1, b, h => by
    have ih := tblB_iff n (b.drop 9) (by rw [List.length_drop]; omega)
    have e1 : tblB (entsOf (n + 1) b) = entB (entOf b) ++ tblB (entsOf n (b.drop 9)) := by simp [entsOf, tblB]
    have e2 : b.take (9 * (n + 1)) = b.take 9 ++ (b.drop 9).take (9 * n) := by
      rw [show 9 * (n + 1) = 9 + 9 * n by omega, List.take_add]
    rw [e1, e2]
    constructor
    · intro e
      have h1 := List.append_inj e (by rw [entB_len, List.length_take]; omega)
      intro i hi
      cases i with
      | zero => simpa using (entB_iff (by omega)).1 h1.1
      | succ i =>
        have := ih.1 h1.2 i (by omega)
        rw [List.drop_drop] at this
        rwa [show 9 * (i + 1) = 9 + 9 * i by omega]
    · intro hall
      rw [(entB_iff (by omega)).2 (by simpa using hall 0 (by omega)), ih.2 (fun i hi => by
        have := hall (i + 1) (by omega)
        rw [List.drop_drop]
        rwa [show 9 * (i + 1) = 9 + 9 * i by omega] at this)]
/-- The reference's reading is the program's. -/
theorem readT_ref {g : Geo} {b : List UInt8} (hl : b.length = 9 * (g.d + 1).toNat) (hall : lostAll (g.d + 1).toNat b) : readT g b = if okT g (entsOf (g.d + 1).toNat b) = true then some (entsOf (g.d + 1).toNat b) else none := by
  have := (tblB_iff (g.d + 1).toNat b (by omega)).2 hall
  rw [List.take_of_length_le (by omega)] at this
  unfold readT
  simp only [this, and_true]
theorem readT_bad {g : Geo} {b : List UInt8} (h : b.length ≠ 9 * (g.d + 1).toNat ∨ ¬ lostAll (g.d + 1).toNat b) : readT g b = none := by
  unfold readT
  rw [if_neg]
  rintro ⟨-, h2⟩
  have hl := congrArg List.length h2
  rw [tblB_len, entsOf_len] at hl
  rcases h with h | h
  · exact h hl.symm
  · apply h
    apply (tblB_iff (g.d + 1).toNat b (by omega)).1
    rw [h2, List.take_of_length_le (by omega)]

def RreadTP (w' : World) (base : Nat) (g : Geo) (b : List UInt8) (e : Ending) : Prop :=
  (readT g b = none ∧ e = .returned (.tuple #[.agg #[.slice none 0 0], .bool false])) ∨
  (∃ v l, readT g b = some l ∧ e = .returned (.tuple #[.agg #[v], .bool true]) ∧ OwR w' noM base 110 v l)
end Go.Proofs.Ytpknhpfbinplgaa
