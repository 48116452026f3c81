/-
Functions handed in: IndexFunc, ContainsFunc over integers.
-/
import Derived.Test.YtombdkdidnoomaaLWithout
import Derived.Shelf.Abstract
namespace Go.Proofs.Ytombdkdidnoomaa
open Go.RowKit
attribute [local go_sem ↓] Go.wp_at_zero Go.wp_at_succ

/-- The place of the first one of which q holds, or -1. -/
def idxP {α : Type} (q : α → Bool) (l : List α) : Int := match l.findIdx? q with | some k => k | none => -1
theorem idxP_hit {α : Type} {q : α → Bool} {l : List α} {k : Nat} (hk : k < l.length) (h : q l[k] = true) (hA : ∀ j (hj : j < l.length), j < k → q l[j] = false) : idxP q l = k := by
  have : l.findIdx? q = some k := List.findIdx?_eq_some_iff_getElem.2 ⟨hk, h, fun j hj => by rw [hA j (by omega) hj]; simp⟩
  simp [idxP, this]
theorem idxP_miss {α : Type} {q : α → Bool} {l : List α} (hA : ∀ j (hj : j < l.length), q l[j] = false) : idxP q l = -1 := by
  have : l.findIdx? q = none := List.findIdx?_eq_none_iff.2 fun x hx => by
    obtain ⟨j, hj, rfl⟩ := List.getElem_of_mem hx
    exact hA j hj
  simp [idxP, this]
theorem idxP_any {α : Type} (q : α → Bool) (l : List α) : decide (0 ≤ idxP q l) = l.any q := by
  unfold idxP
  cases h : l.findIdx? q with
  | some k =>
    obtain ⟨hk, h1, -⟩ := List.findIdx?_eq_some_iff_getElem.1 h
    have : l.any q = true := List.any_eq_true.2 ⟨_, List.getElem_mem hk, h1⟩
    rw [this]; simp
  | none =>
    have : l.any q = false := by
      rw [List.any_eq_false]
      intro x hx; rw [List.findIdx?_eq_none_iff.1 h x hx]; simp
    rw [this]; rfl

/-- What a function handed in says of an integer, its variable being n. -/
def FunI (g : Nat) (p : Int → Int → Bool) : Prop := ∀ (B : Nat) (n x : Int) (w : World), w.cell? ⟨B, 0, none⟩ = some (.int .i64 n) → Calls Try.prog g #[.int .i64 x, .pointer (some ⟨B, 0, none⟩)] w fun e w' => e = .returned (.bool (p n x)) ∧ w = w'

theorem other_any : FunI 25 (fun n x => x != n) := by
  intro B n x w hc
  go_enter Try.func25, Try.ntmps25
  go_wp2
  go_ret
  exact ⟨rfl, rfl⟩
theorem same_any : FunI 29 (fun n x => x == n) := by
  intro B n x w hc
  go_enter Try.func29, Try.ntmps29
  go_wp2
  go_ret
  exact ⟨rfl, rfl⟩

set_option maxHeartbeats 1000000 in
theorem ixfI_any (g : Nat) (p : Int → Int → Bool) (eg : ∀ args w, (callFunc g args).run Try.prog w = .ok (.enter g args) w) (hp : FunI g p) (B : Nat) (n : Int) (v : Value) (l : List Int) (w : World) (M : Ms) (h : SlR w M v l) (hn : w.cell? ⟨B, 0, none⟩ = some (.int .i64 n)) (hl : l.length ≤ 1000000000) :
    Calls Try.prog 46 #[v, .func (.func g) #[] #[.pointer (some ⟨B, 0, none⟩)]] w fun e w' => e = .returned (.int .i64 (idxP (p n) l)) ∧ w = w' := by
  obtain ⟨a, c, rfl⟩ := h.form
  have H := Lib.hid h
  have hcall : ∀ x, Calls Try.prog g #[.int .i64 x, .pointer (some ⟨B, 0, none⟩)] w fun e w' => e = .returned (.bool (p n x)) ∧ w = w' := fun x => hp B n x w hn
  clear h hp hn
  go_enter Try.func46, Try.ntmps46
  go_wp2
  go_loopw [5, 8] (fun _ i wr => wr = w ∧ ∃ k : Nat, k ≤ l.length ∧ i = .int .i64 k ∧ Hid (∀ j (hj : j < l.length), j < k → p n l[j] = false)) (fun _ i _ => l.length - (intOf i).toNat)
  case atStart => exact ⟨rfl, 0, Nat.zero_le _, rfl, Lib.hid fun j _ hj => absurd hj (Nat.not_lt_zero _)⟩
  case round =>
    obtain ⟨rfl, k, hk, rfl, hA⟩ := hrel
    by_cases hlt : k < l.length
    · obtain ⟨b1, o1, rfl, -, x1⟩ := int_at H.out hlt
      have hlt' : (k : Int) < l.length := by omega
      cases hq : p n l[k] with
      | true =>
        have hE := Lib.hid (idxP_hit hlt hq hA.out)
        have hc1 := hcall l[k]
        rw [hq] at hc1
        go_wp2_with (go_at_fn g; refine hc1.mono ?_; rintro e w' ⟨rfl, rfl⟩)
        go_ret
        rw [hE.out]
        exact ⟨rfl, rfl⟩
      | false =>
        have hE := Lib.hid (show ∀ j (hj : j < l.length), j < k + 1 → p n l[j] = false from fun j hj hjk => by
          by_cases e : j = k
          · subst e; exact hq
          · exact hA.out j hj (by omega))
        have hc1 := hcall l[k]
        rw [hq] at hc1
        go_wp2_with (go_at_fn g; refine hc1.mono ?_; rintro e w' ⟨rfl, rfl⟩)
        go_roundw
        case rel => exact ⟨trivial, k + 1, by omega, by go_num, hE⟩
        case measure => simp [intOf]; omega
    · obtain rfl : k = l.length := by omega
      have hE := Lib.hid (idxP_miss (fun j hj => hA.out j hj hj))
      go_wp2
      go_ret
      rw [hE.out]
      exact ⟨rfl, rfl⟩

set_option maxHeartbeats 1000000 in
theorem cfI_any (g : Nat) (p : Int → Int → Bool) (eg : ∀ args w, (callFunc g args).run Try.prog w = .ok (.enter g args) w) (hp : FunI g p) (B : Nat) (n : Int) (v : Value) (l : List Int) (w : World) (M : Ms) (h : SlR w M v l) (hn : w.cell? ⟨B, 0, none⟩ = some (.int .i64 n)) (hl : l.length ≤ 1000000000) :
    Calls Try.prog 26 #[v, .func (.func g) #[] #[.pointer (some ⟨B, 0, none⟩)]] w fun e w' => e = .returned (.bool (l.any (p n))) ∧ w = w' := by
  have hc := Lib.hid (ixfI_any g p eg hp B n v l w M h hn hl)
  obtain ⟨a, c, rfl⟩ := h.form
  rw [← idxP_any]
  clear h hp hn
  go_enter Try.func26, Try.ntmps26
  go_wp2_with (go_at_call 46; go_must (refine hc.out.mono ?_); rintro e w' ⟨rfl, rfl⟩)
  go_ret
  exact ⟨rfl, rfl⟩
end Go.Proofs.Ytombdkdidnoomaa
