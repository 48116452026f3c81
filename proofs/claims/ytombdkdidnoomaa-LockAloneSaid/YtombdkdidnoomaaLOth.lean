/-
The law's own parts: has, others.
-/
import Derived.Test.YtombdkdidnoomaaLAlone0
import Derived.Deep.LoopGhost
namespace Go.Proofs.Ytombdkdidnoomaa
open Go.RowKit
attribute [local go_sem ↓] Go.wp_at_zero Go.wp_at_succ

theorem has_hit {l : List Int} {n : Int} {k : Nat} (hk : k < l.length) (h : l[k] = n) : hasI l n = true := by
  unfold hasI; rw [List.contains_iff_mem]; exact h ▸ List.getElem_mem hk
theorem has_miss {l : List Int} {n : Int} (h : ∀ j (hj : j < l.length), l[j] ≠ n) : hasI l n = false := by
  unfold hasI
  rw [← Bool.not_eq_true, List.contains_iff_mem]
  intro hm
  obtain ⟨j, hj, e⟩ := List.getElem_of_mem hm
  exact h j hj e
set_option maxHeartbeats 1000000 in
theorem has_any (v : Value) (l : List Int) (n : Int) (w : World) (M : Ms) (h : SlR w M v l) (hl : l.length ≤ 1000000) :
    Calls Try.prog 18 #[v, .int .i64 n] w fun e w' => e = .returned (.bool (hasI l n)) ∧ w = w' := by
  obtain ⟨a, c, rfl⟩ := h.form
  have H := Lib.hid h
  clear h
  go_enter Try.func18, Try.ntmps18
  go_wp2
  go_loopw [5] (fun i wr => wr = w ∧ ∃ k : Nat, k ≤ l.length ∧ i = .int .i64 k ∧ Hid (∀ j (hj : j < l.length), j < k → l[j] ≠ n)) (fun i _ => l.length - (intOf i).toNat)
  case atStart => exact ⟨rfl, 0, Nat.zero_le _, rfl, Lib.hid fun j _ hj => absurd hj (Nat.not_lt_zero _)⟩
  case round =>
    obtain ⟨rfl, k, hk, rfl, hA⟩ := hrel
    by_cases hlt : k < l.length
    · obtain ⟨b1, o1, rfl, -, x1⟩ := int_at H.out hlt
      have hlt' : (k : Int) < l.length := by omega
      by_cases hx : l[k] = n
      · have hE := Lib.hid (has_hit hlt hx)
        have hx' : (l[k] == n) = true := by simp [hx]
        clear hx
        go_wp2
        go_ret
        rw [hE.out]
        exact ⟨rfl, rfl⟩
      · have hE := Lib.hid (show ∀ j (hj : j < l.length), j < k + 1 → l[j] ≠ n from fun j hj hjk => by
          by_cases e : j = k
          · subst e; exact hx
          · exact hA.out j hj (by omega))
        have hx' : (l[k] == n) = false := by simpa using hx
        clear hx
        go_wp2
        go_roundw
        case rel => exact ⟨trivial, k + 1, by omega, by go_num, hE⟩
        case measure => simp [intOf]; omega
    · obtain rfl : k = l.length := by omega
      have hE := Lib.hid (has_miss fun j hj => hA.out j hj hj)
      go_wp2
      go_ret
      rw [hE.out]
      exact ⟨rfl, rfl⟩

theorem oth_hit {l : List Lk} {id t : Int} {rd : Bool} {i : Nat} (hi : i < l.length) (ht : l[i].lba = t) (h : othK l[i] id rd = true) : oth l id t rd = true := by
  unfold oth; rw [List.any_eq_true]; exact ⟨_, List.getElem_mem hi, by rw [h, ht]; simp⟩
theorem oth_miss {l : List Lk} {id t : Int} {rd : Bool} (h : ∀ j (hj : j < l.length), (l[j].lba == t && othK l[j] id rd) = false) : oth l id t rd = false := by
  unfold oth; rw [List.any_eq_false]
  intro x hx
  obtain ⟨j, hj, rfl⟩ := List.getElem_of_mem hx
  rw [h j hj]; simp
theorem othK_w {x : Lk} {id : Int} {rd : Bool} (h0 : 0 ≤ x.writer) (h1 : x.writer ≠ id) : othK x id rd = true := by
  unfold othK; rw [decide_eq_true h0, bne_iff_ne.2 h1]; rfl
theorem othK_r {x : Lk} {id : Int} {k : Nat} (hk : k < x.reads.length) (h : x.reads[k] ≠ id) : othK x id true = true := by
  unfold othK
  have : x.reads.any (fun z => z != id) = true := List.any_eq_true.2 ⟨_, List.getElem_mem hk, bne_iff_ne.2 h⟩
  rw [this]; simp
theorem othK_no {x : Lk} {id : Int} {rd : Bool} (hw : ¬ (0 ≤ x.writer ∧ x.writer ≠ id)) (hr : rd = true → ∀ j (hj : j < x.reads.length), x.reads[j] = id) : othK x id rd = false := by
  unfold othK
  have h1 : (decide (0 ≤ x.writer) && x.writer != id) = false := by
    rw [← Bool.not_eq_true]; simp only [Bool.and_eq_true, decide_eq_true_eq, bne_iff_ne]; exact hw
  rw [h1, Bool.false_or]
  cases rd with
  | false => rfl
  | true =>
    rw [Bool.true_and, List.any_eq_false]
    intro z hz
    obtain ⟨j, hj, rfl⟩ := List.getElem_of_mem hz
    rw [hr rfl j hj]; simp

set_option maxHeartbeats 8000000 in
theorem others_any (v : Value) (l : List Lk) (id t : Int) (rd : Bool) (w : World) (M : Ms) (h : SlR w M v l) (hl : l.length ≤ 1000000) (hb : ∀ x ∈ l, x.reads.length ≤ 1000000) :
    Calls Try.prog 19 #[v, .int .i64 id, .int .i64 t, .bool rd] w fun e w' => e = .returned (.bool (oth l id t rd)) ∧ w = w' := by
  obtain ⟨a, c, rfl⟩ := h.form
  have H := Lib.hid h
  have HBL := Lib.hid hb
  clear h hb
  go_enter Try.func19, Try.ntmps19
  go_wp2
  go_loopg [9] l.length (fun g s9 wr => ∃ i : Nat, s9 = .int .i64 i ∧ i ≤ l.length ∧ l.length - i ≤ g ∧ wr = w ∧ Hid (∀ j (hj : j < l.length), j < i → (l[j].lba == t && othK l[j] id rd) = false))
  case atStart => exact ⟨0, rfl, Nat.zero_le _, by omega, rfl, Lib.hid fun j _ hj => absurd hj (Nat.not_lt_zero _)⟩
  case round =>
    obtain ⟨i, rfl, hil, hg, rfl, hA⟩ := hrel
    by_cases hlt : i < l.length
    · obtain ⟨b1, o1, A1, C1, rfl, -, x1, y1, z1, s1⟩ := lk_at H.out hlt
      have hlt' : (i : Int) < l.length := by omega
      have hS1 := Lib.hid s1
      have hrl := HBL.out _ (List.getElem_mem hlt)
      have hnext := Lib.hid (fun (hx : (l[i].lba == t && othK l[i] id rd) = false) => show ∀ j (hj : j < l.length), j < i + 1 → (l[j].lba == t && othK l[j] id rd) = false from fun j hj hji => by
        by_cases e : j = i
        · subst e; exact hx
        · exact hA.out j hj (by omega))
      clear s1
      by_cases ht : l[i].lba = t
      · have ht' : (l[i].lba != t) = false := by simp [ht]
        by_cases hw : 0 ≤ l[i].writer ∧ l[i].writer ≠ id
        · have hE := Lib.hid (oth_hit (rd := rd) hlt ht (othK_w hw.1 hw.2))
          have hw1 : (0 : Int) ≤ l[i].writer := hw.1
          have hw2 : (l[i].writer != id) = true := by simpa using hw.2
          clear hw ht
          go_wp2
          go_ret
          rw [hE.out]
          exact ⟨rfl, rfl⟩
        · have Hw := Lib.hid hw
          have Ht := Lib.hid ht
          have hwt : (0 : Int) ≤ l[i].writer ∧ (l[i].writer != id) = false ∨ decide ((0 : Int) ≤ l[i].writer) = false := by
            by_cases h0 : 0 ≤ l[i].writer
            · left
              refine ⟨h0, ?_⟩
              by_cases h1 : l[i].writer = id
              · simp [h1]
              · exact absurd ⟨h0, h1⟩ hw
            · exact .inr (decide_eq_false h0)
          clear hw ht
          rcases hwt with ⟨hw1, hw2⟩ | hw1
          all_goals
            go_wp2
            cases rd with
            | false =>
              go_loopg [10] 1 (fun g s10 wr' => s10 = .int .i64 0 ∧ wr' = wr)
              case atStart => exact ⟨rfl, rfl⟩
              case round =>
                obtain ⟨rfl, rfl⟩ := hrel
                have hE := Lib.hid (hnext.out (by rw [othK_no Hw.out (fun h => by cases h)]; simp))
                go_wp2
                go_roundg (l.length - (i + 1))
                case measure => omega
                case rel => exact ⟨i + 1, by go_num, by omega, by omega, rfl, hE⟩
            | true =>
              obtain ⟨m, hm⟩ : ∃ m, m = l[i].reads.length := ⟨_, rfl⟩
              go_loopg [10] l[i].reads.length (fun g2 s10 wr' => ∃ k : Nat, s10 = .int .i64 k ∧ k ≤ l[i].reads.length ∧ l[i].reads.length - k ≤ g2 ∧ wr' = wr ∧ Hid (∀ j (hj : j < l[i].reads.length), j < k → l[i].reads[j] = id))
              case atStart => exact ⟨0, rfl, Nat.zero_le _, by omega, rfl, Lib.hid fun j _ hj => absurd hj (Nat.not_lt_zero _)⟩
              case round =>
                obtain ⟨k, rfl, hkl, hg2, rfl, hK⟩ := hrel
                by_cases hlk : k < l[i].reads.length
                · obtain ⟨b2, o2, e2, -, x2⟩ := int_at hS1.out hlk
                  have hlk' : (k : Int) < l[i].reads.length := by omega
                  subst e2
                  by_cases hz : l[i].reads[k] = id
                  · have hz' : (l[i].reads[k] != id) = false := by simp [hz]
                    have hE := Lib.hid (show ∀ j (hj : j < l[i].reads.length), j < k + 1 → l[i].reads[j] = id from fun j hj hjk => by
                      by_cases e : j = k
                      · subst e; exact hz
                      · exact hK.out j hj (by omega))
                    clear hz
                    go_wp2
                    go_roundg (l[i].reads.length - (k + 1))
                    case measure => omega
                    case rel => exact ⟨k + 1, by go_num, by omega, by omega, rfl, hE⟩
                  · have hz' : (l[i].reads[k] != id) = true := by simpa using hz
                    have hE := Lib.hid (oth_hit (rd := true) hlt Ht.out (othK_r hlk hz))
                    clear hz
                    go_wp2
                    go_ret
                    rw [hE.out]
                    exact ⟨rfl, rfl⟩
                · have hlk' : ¬ (k : Int) < l[i].reads.length := by omega
                  have hE := Lib.hid (hnext.out (by rw [othK_no Hw.out (fun _ j hj => hK.out j hj (by omega))]; simp))
                  go_wp2
                  go_roundg (l.length - (i + 1))
                  case measure => omega
                  case rel => exact ⟨i + 1, by go_num, by omega, by omega, rfl, hE⟩
      · have ht' : (l[i].lba != t) = true := by simpa using ht
        have hE := Lib.hid (hnext.out (by have : (l[i].lba == t) = false := by simpa using ht
                                          rw [this]; rfl))
        clear ht
        go_wp2
        go_roundg (l.length - (i + 1))
        case measure => omega
        case rel => exact ⟨i + 1, by go_num, by omega, by omega, rfl, hE⟩
    · obtain rfl : i = l.length := by omega
      have hE := Lib.hid (oth_miss fun j hj => hA.out j hj hj)
      go_wp2
      go_ret
      rw [hE.out]
      exact ⟨rfl, rfl⟩
end Go.Proofs.Ytombdkdidnoomaa
