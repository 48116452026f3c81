/-
The reference: the number that bytes begin with; whether a table is right.
-/
import Derived.Test.YtpknhpfbinplgaaRcWake
namespace Go.Proofs.Ytpknhpfbinplgaa
open Go.RowKit
attribute [local go_sem ↓] Go.wp_at_zero Go.wp_at_succ

theorem leN_drop {l : List UInt8} {k : Nat} (h : k < l.length) : leN (l.drop k) = l[k].toNat + 256 * leN (l.drop (k + 1)) := by
  rw [List.drop_eq_getElem_cons h]
  rfl
theorem pow_le4 {n : Nat} (h : n ≤ 4) : 256 ^ n ≤ 4294967296 := by
  have := Nat.pow_le_pow_right (n := 256) (by omega) h
  omega

set_option maxRecDepth 100000 in
set_option maxHeartbeats 8000000 in
theorem rget_any (v : Value) (l : List UInt8) (m : Nat) (w : World) (Mi : Ms) (h : SlR w Mi v l) (hm : m ≤ l.length) (hm4 : m ≤ 4) :
    Calls Try.prog 50 #[v, .int .i64 m] w fun e w' => e = .returned (.int .i64 (leN (l.take m) : Nat)) ∧ w' = w := by
  obtain ⟨a, c, rfl⟩ := h.form
  have H := Lib.hid h.bare
  have hcap := h.cap
  have hw0 : IntKind.i64.wrap ((m : Int) - 1) = (m : Int) - 1 := by rw [IntKind.wrap_i64]; omega
  have HL := Lib.hid (show (l.take m).length = m by rw [List.length_take]; omega)
  clear h
  go_enter Try.func50, Try.ntmps50
  go_wp2
  go_loopg [5, 6] m (fun gk s5 s6 wr => ∃ k : Nat, s6 = .int .i64 ((k : Int) - 1) ∧ k ≤ m ∧ k ≤ gk ∧ wr = w ∧ s5 = .int .i64 (leN ((l.take m).drop k) : Nat))
  case atStart => exact ⟨m, rfl, Nat.le_refl _, Nat.le_refl _, rfl, by rw [List.drop_eq_nil_of_le (by rw [HL.out]; exact Nat.le_refl _)]; rfl⟩
  case round =>
    obtain ⟨k, rfl, hkl, hgk, rfl, rfl⟩ := hrel
    by_cases hk : k = 0
    · subst hk
      go_wp2
      go_ret
      exact ⟨rfl, rfl⟩
    · obtain ⟨j, rfl⟩ : ∃ j, k = j + 1 := ⟨k - 1, by omega⟩
      have hj : j < l.length := by omega
      obtain ⟨b, off, rfl, -, x1⟩ := u8_at H.out hj
      have hge : (0 : Int) ≤ ((j + 1 : Nat) : Int) - 1 := by omega
      have hjj : ((j + 1 : Nat) : Int) - 1 = (j : Int) := by omega
      rw [hjj] at hge ⊢
      clear hjj
      have hlt := leN_lt ((l.take m).drop (j + 1))
      rw [List.length_drop, HL.out] at hlt
      have hp := pow_le4 (show m - (j + 1) ≤ 4 by omega)
      have hb := l[j].toNat_lt
      have hstep := leN_drop (l := l.take m) (k := j) (by rw [HL.out]; omega)
      rw [List.getElem_take] at hstep
      obtain ⟨N, hN⟩ : ∃ N, N = leN ((l.take m).drop (j + 1)) := ⟨_, rfl⟩
      rw [← hN] at hlt hstep ⊢
      have hNl : N < 4294967296 := by omega
      have hw1 : IntKind.i64.wrap ((N : Int) * 256) = (N : Int) * 256 := by rw [IntKind.wrap_i64]; omega
      have hw1' : IntKind.i64.wrap (256 * (N : Int)) = 256 * (N : Int) := by rw [IntKind.wrap_i64]; omega
      have hw2 : IntKind.i64.wrap (l[j].toNat : Int) = l[j].toNat := by rw [IntKind.wrap_i64]; omega
      have hw3 : IntKind.i64.wrap (256 * (N : Int) + l[j].toNat) = 256 * (N : Int) + l[j].toNat := by rw [IntKind.wrap_i64]; omega
      have hw4 : IntKind.i64.wrap ((j : Int) - 1) = (j : Int) - 1 := by rw [IntKind.wrap_i64]; omega
      have hst := Lib.hid hstep
      clear hN hlt hp hstep hb hk
      go_wp2
      go_roundg j
      case measure => omega
      case rel => exact ⟨j, rfl, by omega, Nat.le_refl _, rfl, by rw [hst.out]; congr 1; omega⟩

/-- Whether a table of so many blocks is right. -/
def refT (g : Geo) (l : List Ent) : Bool := decide ((l.length : Int) = g.d + 1) && (!lostAt l g.d.toNat && l.all entOk)
theorem refT_okT {g : Geo} (h : okG g = true) (l : List Ent) : refT g l = okT g l := by
  simp only [refT, okT, h, Bool.true_and]
  cases decide ((l.length : Int) = g.d + 1) <;> cases lostAt l g.d.toNat <;> cases l.all entOk <;> rfl

set_option maxRecDepth 100000 in
set_option maxHeartbeats 8000000 in
theorem rtab_any (g : Geo) (v : Value) (l : List Ent) (w : World) (Mi : Ms) (h : SlR w Mi v l) (hl : l.length ≤ 1000000) (hg : okG g = true) :
    Calls Try.prog 61 #[gv g, .agg #[v]] w fun e w' => e = .returned (.bool (okT g l)) ∧ Below w.heap.size w w' := by
  rw [← refT_okT hg]
  obtain ⟨a, c, rfl⟩ := h.form
  obtain ⟨z, d, sp, sl, an⟩ := g
  obtain ⟨-, hd, -⟩ := okG_iff.1 hg
  obtain ⟨n, rfl⟩ : ∃ k : Nat, d = k := ⟨d.toNat, by simp only at hd; omega⟩
  have hd1 : (1 : Int) ≤ n := hd.1
  have hd2 : (n : Int) ≤ 4 := hd.2
  have hd0 : (0 : Int) ≤ n := by omega
  have hb1 := (Below.refl w.heap.size w).alloc (Nat.le_refl _) (.cells #[.int .i64 z, .int .i64 n, .int .i64 sp, .int .i64 sl, .int .i64 an] 23)
  have hb2 := hb1.alloc (by simp) (.cells #[.slice a l.length c] 89)
  have hT := Blk.new (w.alloc (.cells #[.int .i64 z, .int .i64 n, .int .i64 sp, .int .i64 sl, .int .i64 an] 23)) 89 #[.slice a l.length c]
  simp only [World.size_alloc] at hT
  have HB := Lib.hid hb2
  have HT := Lib.hid hT
  have H := Lib.hid (h.bare.mono (Keep.below hb2))
  have hw1 : IntKind.i64.wrap ((n : Int) + 1) = n + 1 := by rw [IntKind.wrap_i64]; omega
  unfold gv
  simp only
  clear hb1 hb2 hT hd hg h
  by_cases hn : l.length = n + 1
  · have hn' : ((l.length : Int) != (n : Int) + 1) = false := by simp; omega
    have hN := Lib.hid hn
    have hkl : n < l.length := by omega
    have hkl' : (n : Int) < l.length := by omega
    have hL : lostAt l n = l[n].lost := by simp [lostAt, List.getElem?_eq_getElem hkl]
    obtain ⟨bb, off, rfl, -, x1, x2, x3⟩ := ent_at H.out hkl
    cases hlo : l[n].lost with
    | true =>
      have hE := Lib.hid (show refT ⟨z, n, sp, sl, an⟩ l = false by simp [refT, hL, hlo])
      rw [hlo] at x3
      clear hlo hL hn
      go_enter Try.func61, Try.ntmps61
      go_wp2
      go_ret
      rw [hE.out]
      exact ⟨rfl, HB.out⟩
    | false =>
      have hE := Lib.hid (show refT ⟨z, n, sp, sl, an⟩ l = l.all entOk by
        have : ((l.length : Int) = (n : Int) + 1) := by omega
        simp [refT, hL, hlo, this])
      rw [hlo] at x3
      clear hlo hL hn
      go_enter Try.func61, Try.ntmps61
      go_wp2
      clear x1 x2 x3
      obtain ⟨W, hW⟩ : ∃ W, W = (w.alloc (.cells #[.int .i64 z, .int .i64 n, .int .i64 sp, .int .i64 sl, .int .i64 an] 23)).alloc (.cells #[.slice (some ⟨bb, off, none⟩) l.length c] 89) := ⟨_, rfl⟩
      rw [← hW] at HB HT H ⊢
      clear hW
      go_loopg [5] l.length (fun gk s5 wr => ∃ k : Nat, s5 = .int .i64 k ∧ k ≤ l.length ∧ l.length - k ≤ gk ∧ wr = W ∧ Hid (∀ j (hj : j < l.length), j < k → entOk l[j] = true))
      case atStart => exact ⟨0, rfl, Nat.zero_le _, by omega, rfl, Lib.hid fun j _ hj => absurd hj (Nat.not_lt_zero _)⟩
      case round =>
        obtain ⟨k, rfl, hk, hgk, rfl, hA⟩ := hrel
        obtain ⟨t1, t2, t3⟩ := HT.out.all
        by_cases hlt : k < l.length
        · obtain ⟨bb2, off2, e2, -, x1, x2, x3⟩ := ent_at H.out hlt
          cases e2
          have hlt' : (k : Int) < l.length := by omega
          have hi1 := fun w => rf8in_any l[k].stamp 0 4294967295 w
          have hi2 := fun w => rf8in_any l[k].sum 0 4294967295 w
          have hq : entOk l[k] = (inB l[k].stamp 0 4294967295 && inB l[k].sum 0 4294967295) := rfl
          cases h1 : inB l[k].stamp 0 4294967295 with
          | false =>
            have hE2 := Lib.hid (show l.all entOk = false by rw [List.all_eq_false]; exact ⟨l[k], List.getElem_mem hlt, by rw [hq, h1]; simp⟩)
            rw [h1] at hi1
            clear h1 hq hi2
            go_wp2_with (go_at_call 62; go_must (with_reducible refine (hi1 _).mono ?_); rintro e w1 ⟨rfl, rfl⟩)
            go_ret
            rw [hE.out, hE2.out]
            exact ⟨rfl, HB.out⟩
          | true =>
            cases h2 : inB l[k].sum 0 4294967295 with
            | false =>
              have hE2 := Lib.hid (show l.all entOk = false by rw [List.all_eq_false]; exact ⟨l[k], List.getElem_mem hlt, by rw [hq, h1, h2]; simp⟩)
              rw [h1] at hi1
              rw [h2] at hi2
              clear h1 h2 hq
              go_wp2_with (go_at_call 62; go_must (first | (with_reducible refine (hi1 _).mono ?_) | (with_reducible refine (hi2 _).mono ?_)); rintro e w1 ⟨rfl, rfl⟩)
              go_ret
              rw [hE.out, hE2.out]
              exact ⟨rfl, HB.out⟩
            | true =>
              have hA2 := Lib.hid (show ∀ j (hj : j < l.length), j < k + 1 → entOk l[j] = true from fun j hj hjk => by
                by_cases e : j = k
                · subst e; rw [hq, h1, h2]; rfl
                · exact hA.out j hj (by omega))
              rw [h1] at hi1
              rw [h2] at hi2
              clear h1 h2 hq
              go_wp2_with (go_at_call 62; go_must (first | (with_reducible refine (hi1 _).mono ?_) | (with_reducible refine (hi2 _).mono ?_)); rintro e w1 ⟨rfl, rfl⟩)
              go_roundg (l.length - (k + 1))
              case measure => omega
              case rel => exact ⟨k + 1, by go_num, by omega, by omega, rfl, hA2⟩
        · obtain rfl : k = l.length := by omega
          have hE2 := Lib.hid (show l.all entOk = true by
            rw [List.all_eq_true]
            intro x hx
            obtain ⟨j, hj, rfl⟩ := List.getElem_of_mem hx
            exact hA.out j hj hj)
          go_wp2
          go_ret
          rw [hE.out, hE2.out]
          exact ⟨rfl, HB.out⟩
  · have hn' : ((l.length : Int) != (n : Int) + 1) = true := by simp; omega
    have hE := Lib.hid (show refT ⟨z, n, sp, sl, an⟩ l = false by
      have : ¬ ((l.length : Int) = (n : Int) + 1) := by omega
      simp [refT, this])
    clear hn
    go_enter Try.func61, Try.ntmps61
    go_wp2
    go_ret
    rw [hE.out]
    exact ⟨rfl, HB.out⟩
end Go.Proofs.Ytpknhpfbinplgaa
