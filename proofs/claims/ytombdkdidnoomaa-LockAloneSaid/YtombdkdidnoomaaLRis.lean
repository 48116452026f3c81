/-
Numbers that rise.
-/
import Derived.Test.YtombdkdidnoomaaLBase
namespace Go.Proofs.Ytombdkdidnoomaa
open Go.RowKit
attribute [local go_sem ↓] Go.wp_at_zero Go.wp_at_succ

def risA (p : Int) : List Int → Bool
  | [] => true
  | x :: t => decide (p < x) && risA x t
def ris (l : List Int) : Bool := risA (-1) l
theorem risA_snoc (x : Int) : ∀ (l : List Int) (p : Int), risA p (l ++ [x]) = (risA p l && decide ((l.getLast?.getD p) < x))
  | [], p => by
    show (decide (p < x) && true) = (true && decide (p < x))
    rw [Bool.and_true, Bool.true_and]
  | y :: t, p => by
    show (decide (p < y) && risA y (t ++ [x])) = ((decide (p < y) && risA y t) && decide (((y :: t).getLast?.getD p) < x))
    rw [risA_snoc x t y, Bool.and_assoc]
    congr 2
    cases t with
    | nil => rfl
    | cons z u => rw [List.getLast?_cons_cons]; cases h : (z :: u).getLast? with
      | none => simp at h
      | some v => rfl
theorem risA_prefix (m : List Int) : ∀ (l : List Int) (p : Int), risA p (l ++ m) = true → risA p l = true
  | [], _, _ => rfl
  | y :: t, p, h => by
    have h : (decide (p < y) && risA y (t ++ m)) = true := h
    rw [Bool.and_eq_true] at h
    show (decide (p < y) && risA y t) = true
    rw [Bool.and_eq_true]
    exact ⟨h.1, risA_prefix m t y h.2⟩
theorem ris_take0 {l : List Int} (h : 0 < l.length) : ris (l.take 1) = decide (-1 < l[0]) := by
  cases l with
  | nil => simp at h
  | cons x t => simp [ris, risA]
theorem ris_takeS {l : List Int} {j : Nat} (h : j + 1 < l.length) : ris (l.take (j + 2)) = (ris (l.take (j + 1)) && decide (l[j] < l[j + 1])) := by
  have e : l.take (j + 2) = l.take (j + 1) ++ [l[j + 1]] := by rw [List.take_add_one, List.getElem?_eq_getElem h]; rfl
  have hj : j < l.length := by omega
  have e2 : l.take (j + 1) = l.take j ++ [l[j]] := by rw [List.take_add_one, List.getElem?_eq_getElem hj]; rfl
  unfold ris
  rw [e, risA_snoc]
  congr 2
  rw [e2, List.getLast?_append]
  simp
theorem ris_stop {l : List Int} {k : Nat} (h : ris (l.take k) = false) : ris l = false := by
  rw [← Bool.not_eq_true] at h ⊢
  intro h2
  apply h
  unfold ris at *
  rw [← List.take_append_drop k l] at h2
  exact risA_prefix _ _ _ h2
theorem ris_pos {l : List Int} {k : Nat} (h : ris (l.take k) = true) {i : Nat} (hi : i < k) (hl : i < l.length) : 0 ≤ l[i] := by
  induction i with
  | zero =>
    have h1 : ris (l.take 1) = true := by
      cases hh : ris (l.take 1) with
      | true => rfl
      | false =>
        have : ris (l.take k) = false := by
          have e : (l.take k).take 1 = l.take 1 := by rw [List.take_take]; congr 1; omega
          exact ris_stop (k := 1) (by rw [e]; exact hh)
        rw [this] at h; cases h
    rw [ris_take0 hl, decide_eq_true_eq] at h1; omega
  | succ i ih =>
    have h0 := ih (by omega) (by omega)
    have h1 : ris (l.take (i + 2)) = true := by
      cases hh : ris (l.take (i + 2)) with
      | true => rfl
      | false =>
        have : ris (l.take k) = false := by
          have e : (l.take k).take (i + 2) = l.take (i + 2) := by rw [List.take_take]; congr 1; omega
          exact ris_stop (k := i + 2) (by rw [e]; exact hh)
        rw [this] at h; cases h
    rw [ris_takeS hl, Bool.and_eq_true, decide_eq_true_eq] at h1
    omega

set_option maxHeartbeats 1000000 in
theorem rising_any (v : Value) (l : List Int) (w : World) (M : Ms) (h : SlR w M v l) (hl : l.length ≤ 1000000000) :
    Calls Try.prog 32 #[v] w fun e w' => e = .returned (.bool (ris l)) ∧ w = w' := by
  obtain ⟨a, c, rfl⟩ := h.form
  have H := Lib.hid h
  clear h
  go_enter Try.func32, Try.ntmps32
  go_wp2
  go_loopw [7] (fun i wr => wr = w ∧ ∃ k : Nat, k ≤ l.length ∧ i = .int .i64 k ∧ Hid (ris (l.take k) = true)) (fun i _ => l.length - (intOf i).toNat)
  case atStart => exact ⟨rfl, 0, Nat.zero_le _, rfl, Lib.hid rfl⟩
  case round =>
    obtain ⟨rfl, k, hk, rfl, hR⟩ := hrel
    by_cases hlt : k < l.length
    · obtain ⟨b, o, rfl, -, x1⟩ := int_at H.out hlt
      have hlt' : (k : Int) < l.length := by omega
      cases k with
      | zero =>
        rw [Nat.add_zero] at x1
        by_cases hneg : l[0] < 0
        · have hE := Lib.hid (show ris l = false from ris_stop (k := 1) (by rw [ris_take0 hlt, decide_eq_false_iff_not]; omega))
          go_wp2
          go_ret
          rw [hE.out]
          exact ⟨rfl, rfl⟩
        · have hE := Lib.hid (show ris (l.take 1) = true by rw [ris_take0 hlt, decide_eq_true_eq]; omega)
          go_wp2
          go_roundw
          case rel => exact ⟨trivial, 1, hlt, by go_num, hE⟩
          case measure => simp [intOf]; omega
      | succ j =>
        have hj : j < l.length := by omega
        obtain ⟨b', o', e', -, x2⟩ := int_at H.out hj
        simp only [Option.some.injEq, Addr.mk.injEq, and_true] at e'
        obtain ⟨rfl, rfl⟩ := e'
        have hjl : (j : Int) < l.length := by omega
        by_cases hle : l[j + 1] ≤ l[j]
        · have hE := Lib.hid (show ris l = false from ris_stop (k := j + 2) (by rw [ris_takeS hlt, Bool.and_eq_false_iff]; right; rw [decide_eq_false_iff_not]; omega))
          by_cases hneg : l[j + 1] < 0
          · go_wp2
            go_ret
            rw [hE.out]
            exact ⟨rfl, rfl⟩
          · go_wp2
            go_ret
            rw [hE.out]
            exact ⟨rfl, rfl⟩
        · have hE := Lib.hid (show ris (l.take (j + 2)) = true by rw [ris_takeS hlt, hR.out, Bool.true_and, decide_eq_true_eq]; omega)
          have hneg : ¬ l[j + 1] < 0 := by have := ris_pos hR.out (i := j) (by omega) hj; omega
          go_wp2
          go_roundw
          case rel => exact ⟨trivial, j + 2, hlt, by go_num, hE⟩
          case measure => simp [intOf]; omega
    · obtain rfl : k = l.length := by omega
      have hE := Lib.hid (show ris l = true by have := hR.out; rwa [List.take_length] at this)
      go_wp2
      go_ret
      rw [hE.out]
      exact ⟨rfl, rfl⟩
end Go.Proofs.Ytombdkdidnoomaa
