/-
Looking for a number in a rising list: BinarySearch over integers, BinarySearchFunc over locks.
-/
import Derived.Test.YtombdkdidnoomaaLRef
import Derived.Lib.SlicesSearch
import Derived.Deep.LoopGhost
import Derived.Deep.Draws
namespace Go.Proofs.Ytombdkdidnoomaa
open Go.RowKit
attribute [local go_sem ↓] Go.wp_at_zero Go.wp_at_succ

/-- How many are less; is it there? -/
def lb (l : List Int) (x : Int) : Nat := l.countP (· < x)
def hasI (l : List Int) (x : Int) : Bool := l.contains x
theorem ris_adj {l : List Int} (h : ris l = true) {j : Nat} (hj : j + 1 < l.length) : l[j] < l[j + 1] := by
  have h1 : ris (l.take (j + 2)) = true := by
    cases hh : ris (l.take (j + 2)) with
    | true => rfl
    | false => rw [ris_stop hh] at h; cases h
  rw [ris_takeS hj, Bool.and_eq_true, decide_eq_true_eq] at h1
  exact h1.2
theorem ris_lt {l : List Int} (h : ris l = true) {i : Nat} : ∀ {d : Nat} (hj : i + d + 1 < l.length), l[i] < l[i + d + 1]
  | 0, hj => ris_adj h hj
  | d + 1, hj => Int.lt_trans (ris_lt h (d := d) (by omega)) (ris_adj h hj)
theorem ris_mono {l : List Int} (h : ris l = true) : ∀ a b, a ≤ b → b < l.length → l.getD a 0 ≤ l.getD b 0 := fun a b hab hb => by
  rw [Lib.getD_lt _ _ (by omega), Lib.getD_lt _ _ hb]
  by_cases e : a = b
  · subst e; exact Int.le_refl _
  · have := ris_lt h (i := a) (d := b - a - 1) (by omega)
    simp only [show a + (b - a - 1) + 1 = b by omega] at this
    exact Int.le_of_lt this
theorem lb_le (l : List Int) (x : Int) : lb l x ≤ l.length := List.countP_le_length
theorem search_end' {l : List Int} {i : Nat} {x : Int} (hi : i ≤ l.length) (h1 : ∀ j, j < i → l.getD j 0 < x) (h2 : ∀ j, i ≤ j → j < l.length → x ≤ l.getD j 0) (hs : ∀ a b, a ≤ b → b < l.length → l.getD a 0 ≤ l.getD b 0) :
    lb l x = i ∧ hasI l x = decide (i < l.length ∧ l.getD i 0 = x) := by
  have := Lib.search_end l l.length i x (Nat.le_refl _) hi h1 h2 hs
  rw [List.take_length] at this
  exact this

theorem cnan_any (x : Int) (w : World) : Calls Try.prog 54 #[.int .i64 x] w fun e w' => e = .returned (.bool false) ∧ w = w' := by
  go_enter Try.func54, Try.ntmps54
  go_wp2
  go_ret
  exact ⟨by simp, rfl⟩
theorem snan_any (x : Int) (w : World) : Calls Try.prog 43 #[.int .i64 x] w fun e w' => e = .returned (.bool false) ∧ w = w' := by
  go_enter Try.func43, Try.ntmps43
  go_wp2
  go_ret
  exact ⟨by simp, rfl⟩
theorem less_any (x y : Int) (w : World) : Calls Try.prog 42 #[.int .i64 x, .int .i64 y] w fun e w' => e = .returned (.bool (decide (x < y))) ∧ w = w' := by
  go_enter Try.func42, Try.ntmps42
  go_wp2_with (go_at_call 54; refine (cnan_any _ _).mono ?_; rintro e w' ⟨rfl, rfl⟩)
  go_ret
  exact ⟨rfl, rfl⟩

set_option maxHeartbeats 4000000 in
set_option maxRecDepth 1000000 in
theorem bs_any (v : Value) (l : List Int) (x : Int) (w : World) (M : Ms) (h : SlR w M v l) (hr : ris l = true) (hl : l.length ≤ 1000000000) :
    Calls Try.prog 23 #[v, .int .i64 x] w fun e w' => e = .returned (.tuple #[.int .i64 (lb l x : Nat), .bool (hasI l x)]) ∧ ∃ q, w' = w.drewN q := by
  obtain ⟨a, c, rfl⟩ := h.form
  have H := Lib.hid h
  have S := Lib.hid (ris_mono hr)
  have hcs : ∀ k, k < l.length → ∃ b off, a = some ⟨b, off, none⟩ ∧ w.cell? ⟨b, off + k, none⟩ = some (.int .i64 (l.getD k 0)) := fun k hk => by
    obtain ⟨b, off, e, -, hc⟩ := int_at h hk
    exact ⟨b, off, e, by rw [Lib.getD_lt _ _ hk]; exact hc⟩
  have hC := Lib.hid hcs
  clear hr h hcs
  obtain ⟨n, hn⟩ : ∃ n, n = l.length := ⟨_, rfl⟩
  rw [← hn] at hl ⊢
  have Hn := Lib.hid hn
  clear hn
  go_enter Try.func23, Try.ntmps23
  go_wp2
  go_loopg [7, 8] n (fun g s7 s8 wr => ∃ lo hi q : Nat, s7 = .int .i64 lo ∧ s8 = .int .i64 hi ∧ lo ≤ hi ∧ hi ≤ n ∧ hi - lo ≤ g ∧ wr = w.drewN q ∧ (∀ t, t < lo → l.getD t 0 < x) ∧ (∀ t, hi ≤ t → t < l.length → x ≤ l.getD t 0))
  case atStart => exact ⟨0, n, 0, rfl, rfl, Nat.zero_le _, Nat.le_refl _, by omega, rfl, fun t ht => absurd ht (Nat.not_lt_zero _), fun t h1 h2 => by have := Hn.out; omega⟩
  case round =>
    obtain ⟨lo, hi, q, rfl, rfl, hlh, hin, hg, rfl, h1, h2⟩ := hrel
    have I := Lib.hid (And.intro h1 h2)
    clear h1 h2
    by_cases hlt : lo < hi
    · obtain ⟨b, off, rfl, cm⟩ := hC.out ((lo + hi) / 2) (by have := Hn.out; omega)
      generalize hy : l.getD ((lo + hi) / 2) 0 = y at cm
      have Y := Lib.hid hy
      clear hy
      by_cases hyx : y < x
      · go_wp2_with (go_at_call 42; refine (less_any _ _ _).mono ?_; rintro e w' ⟨rfl, rfl⟩)
        go_roundg (hi - ((lo + hi) / 2 + 1))
        case measure => omega
        case rel =>
          refine ⟨(lo + hi) / 2 + 1, hi, _, by rw [show ((lo : Int) + (hi : Int)) / 2 + 1 = (((lo + hi) / 2 + 1 : Nat) : Int) by omega], rfl, by omega, hin, Nat.le_refl _, rfl, fun t ht => ?_, I.out.2⟩
          have := S.out t ((lo + hi) / 2) (by omega) (by have := Hn.out; omega)
          rw [Y.out] at this
          omega
      · go_wp2_with (go_at_call 42; refine (less_any _ _ _).mono ?_; rintro e w' ⟨rfl, rfl⟩)
        go_roundg ((lo + hi) / 2 - lo)
        case measure => omega
        case rel =>
          refine ⟨lo, (lo + hi) / 2, _, rfl, by rw [show ((lo : Int) + (hi : Int)) / 2 = (((lo + hi) / 2 : Nat) : Int) by omega], by omega, by omega, Nat.le_refl _, rfl, I.out.1, fun t ht htn => ?_⟩
          have := S.out ((lo + hi) / 2) t ht htn
          rw [Y.out] at this
          omega
    · have : hi = lo := by omega
      subst this
      have E := Lib.hid (search_end' (by have := Hn.out; omega) I.out.1 I.out.2 S.out)
      by_cases hn : hi < n
      · obtain ⟨b, off, rfl, cl⟩ := hC.out hi (by have := Hn.out; omega)
        generalize hy : l.getD hi 0 = y at cl
        have Y := Lib.hid hy
        clear hy
        by_cases hyx : y = x
        · go_wp2_with (go_at_call 43; refine (snan_any _ _).mono ?_; rintro e w' ⟨rfl, rfl⟩)
          go_ret2
          refine ⟨?_, _, rfl⟩
          rw [E.out.1, E.out.2, Y.out, decide_eq_true (show hi < l.length ∧ y = x from ⟨by have := Hn.out; omega, hyx⟩)]
          first | rfl | simp [*]
        · go_wp2_with (go_at_call 43; refine (snan_any _ _).mono ?_; rintro e w' ⟨rfl, rfl⟩)
          go_ret2
          refine ⟨?_, _, rfl⟩
          rw [E.out.1, E.out.2, Y.out, decide_eq_false (show ¬ (hi < l.length ∧ y = x) from fun h => hyx h.2)]
          first | rfl | simp [*]
      · go_wp2
        go_ret2
        refine ⟨?_, _, rfl⟩
        rw [E.out.1, E.out.2, decide_eq_false (show ¬ (hi < l.length ∧ l.getD hi 0 = x) from fun h => hn (by have := Hn.out; omega))]
        first | rfl | simp [*]

theorem at1_any (x : Lk) (A : Value) (t : Int) (w : World) (h0 : 0 ≤ x.lba) (h1 : x.lba ≤ 9223372036854775807) (h2 : 0 ≤ t) (h3 : t ≤ 9223372036854775807) :
    Calls Try.prog 51 #[.agg #[.int .i64 x.lba, A, .int .i64 x.writer], .int .i64 t] w fun e w' => e = .returned (.int .i64 (x.lba - t)) ∧ Below w.heap.size w w' := by
  have hw : IntKind.i64.wrap (x.lba - t) = x.lba - t := by rw [IntKind.wrap_i64]; omega
  go_enter Try.func51, Try.ntmps51
  go_wp2
  go_ret
  exact ⟨rfl, (Below.refl _ _).alloc (Nat.le_refl _) _⟩
end Go.Proofs.Ytombdkdidnoomaa
