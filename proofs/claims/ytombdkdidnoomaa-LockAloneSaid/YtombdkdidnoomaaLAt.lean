/-
Where a block's lock is.
-/
import Derived.Test.YtombdkdidnoomaaLSearch
import Derived.Test.YtombdkdidnoomaaLOne
namespace Go.Proofs.Ytombdkdidnoomaa
open Go.RowKit
attribute [local go_sem ↓] Go.wp_at_zero Go.wp_at_succ

abbrev mI : Int := 9223372036854775807
/-- The locks' blocks are numbers of the machine. -/
def BdL (l : List Lk) : Prop := ∀ x ∈ l, x.lba ≤ mI
theorem ris_get0 {l : List Int} (h : ris l = true) {k : Nat} (hk : k < l.length) : 0 ≤ l[k] := ris_pos (k := k + 1) (by
  cases hh : ris (l.take (k + 1)) with
  | true => rfl
  | false => rw [ris_stop hh] at h; cases h) (Nat.lt_succ_self k) hk
/-- Where a block's lock is or is to be; is it there? -/
def atN (l : List Lk) (t : Int) : Nat := lb (l.map Lk.lba) t
def atB (l : List Lk) (t : Int) : Bool := hasI (l.map Lk.lba) t

set_option maxHeartbeats 4000000 in
set_option maxRecDepth 1000000 in
theorem bsf_any (v : Value) (l : List Lk) (x : Int) (w : World) (M : Ms) (h : SlR w M v l) (hr : ris (l.map Lk.lba) = true) (hbd : BdL l) (hx0 : 0 ≤ x) (hx1 : x ≤ mI) (hl : l.length ≤ 1000000000) :
    Calls Try.prog 50 #[v, .int .i64 x, .func (.func 51) #[] #[]] w fun e w' => e = .returned (.tuple #[.int .i64 (atN l x : Nat), .bool (atB l x)]) ∧ Below w.heap.size w w' := by
  obtain ⟨a, c, rfl⟩ := h.form
  have H := Lib.hid h
  have S := Lib.hid (ris_mono hr)
  have hcmp : ∀ k (hk : k < l.length) (A : Value) (W : World), Calls Try.prog 51 #[.agg #[.int .i64 l[k].lba, A, .int .i64 l[k].writer], .int .i64 x] W fun e w' => e = .returned (.int .i64 (l[k].lba - x)) ∧ Below W.heap.size W w' := fun k hk A W =>
    at1_any l[k] A x W (by have := ris_get0 hr (k := k) (by simpa using hk); simpa using this) (hbd _ (List.getElem_mem hk)) hx0 hx1
  have hG : ∀ k (hk : k < l.length), (l.map Lk.lba).getD k 0 = l[k].lba := fun k hk => by rw [Lib.getD_lt _ _ (by simpa using hk)]; simp
  have HC := Lib.hid hcmp
  have HG := Lib.hid hG
  have eg : ∀ args w, (callFunc 51 args).run Try.prog w = .ok (.enter 51 args) w := enters_of Try.func51 (by kernel_rfl) rfl
  clear hr h hcmp hG hbd hx0 hx1
  obtain ⟨n, hn⟩ : ∃ n, n = l.length := ⟨_, rfl⟩
  rw [← hn] at hl ⊢
  have Hn := Lib.hid hn
  have Hn2 := Lib.hid (show (l.map Lk.lba).length = n by simp [hn])
  clear hn
  go_enter Try.func50, Try.ntmps50
  go_wp2
  go_loopg [9, 10] n (fun g s7 s8 wr => ∃ lo hi : Nat, s7 = .int .i64 lo ∧ s8 = .int .i64 hi ∧ lo ≤ hi ∧ hi ≤ n ∧ hi - lo ≤ g ∧ Below w.heap.size w wr ∧ Hid ((∀ t, t < lo → (l.map Lk.lba).getD t 0 < x) ∧ (∀ t, hi ≤ t → t < (l.map Lk.lba).length → x ≤ (l.map Lk.lba).getD t 0)))
  case atStart => exact ⟨0, n, rfl, rfl, Nat.zero_le _, Nat.le_refl _, by omega, Below.refl _ _, Lib.hid ⟨fun t ht => absurd ht (Nat.not_lt_zero _), fun t h1 h2 => by have := Hn2.out; omega⟩⟩
  case round =>
    obtain ⟨lo, hi, rfl, rfl, hlh, hin, hg, hB, I⟩ := hrel
    have HB := Lib.hid hB
    by_cases hlt : lo < hi
    · have hm : (lo + hi) / 2 < l.length := by have := Hn.out; omega
      obtain ⟨b, off, A, C, rfl, -, x1, y1, z1, s1⟩ := lk_at (H.out.mono (Keep.below hB)) hm
      have hc1 := Lib.hid (HC.out _ hm (.slice A l[(lo + hi) / 2].reads.length C) wr)
      have Y := Lib.hid (HG.out _ hm)
      generalize l[(lo + hi) / 2] = y at *
      have Hm := Lib.hid hm
      clear hB s1 hm
      by_cases hyx : y.lba - x < 0
      · go_wp2_with (go_at_call 51; go_must (refine hc1.out.mono ?_); rintro e w' ⟨rfl, hB2⟩)
        go_roundg (hi - ((lo + hi) / 2 + 1))
        case measure => omega
        case rel =>
          refine ⟨(lo + hi) / 2 + 1, hi, by rw [show ((lo : Int) + (hi : Int)) / 2 + 1 = (((lo + hi) / 2 + 1 : Nat) : Int) by omega], rfl, by omega, hin, Nat.le_refl _, HB.out.trans (hB2.mono HB.out.size), Lib.hid ⟨fun t ht => ?_, I.out.2⟩⟩
          have := S.out t ((lo + hi) / 2) (by omega) (by rw [Hn2.out]; omega)
          rw [Y.out] at this
          omega
      · go_wp2_with (go_at_call 51; go_must (refine hc1.out.mono ?_); rintro e w' ⟨rfl, hB2⟩)
        go_roundg ((lo + hi) / 2 - lo)
        case measure => omega
        case rel =>
          refine ⟨lo, (lo + hi) / 2, rfl, by rw [show ((lo : Int) + (hi : Int)) / 2 = (((lo + hi) / 2 : Nat) : Int) by omega], by omega, by omega, Nat.le_refl _, HB.out.trans (hB2.mono HB.out.size), Lib.hid ⟨I.out.1, fun t ht htn => ?_⟩⟩
          have := S.out ((lo + hi) / 2) t ht htn
          rw [Y.out] at this
          omega
    · have : hi = lo := by omega
      subst this
      have E := Lib.hid (search_end' (by have := Hn2.out; omega) I.out.1 I.out.2 S.out)
      by_cases hn : hi < n
      · have hm : hi < l.length := by have := Hn.out; omega
        obtain ⟨b, off, A, C, rfl, -, x1, y1, z1, s1⟩ := lk_at (H.out.mono (Keep.below hB)) hm
        have hc1 := Lib.hid (HC.out _ hm (.slice A l[hi].reads.length C) wr)
        have Y := Lib.hid (HG.out _ hm)
        generalize l[hi] = y at *
        have Hm := Lib.hid hm
        clear hB s1 hm
        by_cases hyx : y.lba - x = 0
        · go_wp2_with (go_at_call 51; go_must (refine hc1.out.mono ?_); rintro e w' ⟨rfl, hB2⟩)
          go_ret2
          refine ⟨?_, HB.out.trans (hB2.mono HB.out.size)⟩
          unfold atN atB
          rw [E.out.1, E.out.2, Y.out, decide_eq_true (show hi < (l.map Lk.lba).length ∧ y.lba = x from ⟨by have := Hn2.out; omega, by omega⟩)]
          first | rfl | simp [*]
        · go_wp2_with (go_at_call 51; go_must (refine hc1.out.mono ?_); rintro e w' ⟨rfl, hB2⟩)
          go_ret2
          refine ⟨?_, HB.out.trans (hB2.mono HB.out.size)⟩
          unfold atN atB
          rw [E.out.1, E.out.2, Y.out, decide_eq_false (show ¬ (hi < (l.map Lk.lba).length ∧ y.lba = x) from fun h => hyx (by omega))]
          first | rfl | simp [*]
      · go_wp2
        go_ret2
        refine ⟨?_, HB.out⟩
        unfold atN atB
        rw [E.out.1, E.out.2, decide_eq_false (show ¬ (hi < (l.map Lk.lba).length ∧ (l.map Lk.lba).getD hi 0 = x) from fun h => hn (by have := Hn2.out; omega))]
        first | rfl | simp [*]

theorem at_any (v : Value) (l : List Lk) (x : Int) (w : World) (M : Ms) (h : SlR w M v l) (hr : ris (l.map Lk.lba) = true) (hbd : BdL l) (hx0 : 0 ≤ x) (hx1 : x ≤ mI) (hl : l.length ≤ 1000000000) :
    Calls Try.prog 40 #[v, .int .i64 x] w fun e w' => e = .returned (.tuple #[.int .i64 (atN l x : Nat), .bool (atB l x)]) ∧ Below w.heap.size w w' := by
  have hc := Lib.hid (bsf_any v l x w M h hr hbd hx0 hx1 hl)
  obtain ⟨a, c, rfl⟩ := h.form
  generalize atN l x = n at *
  generalize atB l x = b at *
  clear h hr hbd
  go_enter Try.func40, Try.ntmps40
  go_wp2_with (go_at_call 50; go_must (refine hc.out.mono ?_); rintro e w' ⟨rfl, hB⟩)
  go_ret2
  exact ⟨rfl, hB⟩
end Go.Proofs.Ytombdkdidnoomaa
