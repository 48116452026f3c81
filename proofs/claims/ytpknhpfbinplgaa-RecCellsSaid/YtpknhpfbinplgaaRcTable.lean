/-
Package table: whether a table is right.
-/
import Derived.Test.YtpknhpfbinplgaaRcUnpart
import Derived.Shelf.Abstract
namespace Go.Proofs.Ytpknhpfbinplgaa
open Go.RowKit
attribute [local go_sem ↓] Go.wp_at_zero Go.wp_at_succ

def ev (x : Ent) : Value := .agg #[.int .i64 x.stamp, .int .i64 x.sum, .bool x.lost]
def entOk (x : Ent) : Bool := num32 x.stamp && num32 x.sum
/-- Is one of them lost? -/
def lostAt (l : List Ent) (k : Nat) : Bool := (l[k]?.map Ent.lost).getD true
def okT (g : Geo) (l : List Ent) : Bool := okG g && decide ((l.length : Int) = g.d + 1) && l.all entOk && !lostAt l g.d.toNat

theorem wrong_any (x : Ent) (w : World) : Calls Try.prog 74 #[ev x] w fun e w' => e = .returned (.bool (!entOk x)) ∧ Below w.heap.size w w' := by
  have hB := Lib.hid ((Below.refl w.heap.size w).alloc (Nat.le_refl _) (.cells #[.int .i64 x.stamp, .int .i64 x.sum, .bool x.lost] 110))
  unfold ev
  have c1 := fun w => num_any x.stamp w
  have c2 := fun w => num_any x.sum w
  cases h1 : num32 x.stamp with
  | false =>
    have hE := Lib.hid (show (!entOk x) = true by simp [entOk, h1])
    simp only [h1] at c1
    clear h1 c2
    go_enter Try.func74, Try.ntmps74
    go_wp2_with (go_at_call 75; go_must (with_reducible refine (c1 _).mono ?_); rintro e w' ⟨rfl, rfl⟩)
    go_ret
    rw [hE.out]
    exact ⟨rfl, hB.out⟩
  | true =>
    cases h2 : num32 x.sum with
    | false =>
      have hE := Lib.hid (show (!entOk x) = true by simp [entOk, h1, h2])
      simp only [h1] at c1
      simp only [h2] at c2
      clear h1 h2
      go_enter Try.func74, Try.ntmps74
      go_wp2_with (go_at_call 75; go_must (first | (with_reducible refine (c1 _).mono ?_) | (with_reducible refine (c2 _).mono ?_)); rintro e w' ⟨rfl, rfl⟩)
      go_ret
      rw [hE.out]
      exact ⟨rfl, hB.out⟩
    | true =>
      have hE := Lib.hid (show (!entOk x) = false by simp [entOk, h1, h2])
      simp only [h1] at c1
      simp only [h2] at c2
      clear h1 h2
      go_enter Try.func74, Try.ntmps74
      go_wp2_with (go_at_call 75; go_must (first | (with_reducible refine (c1 _).mono ?_) | (with_reducible refine (c2 _).mono ?_)); rintro e w' ⟨rfl, rfl⟩)
      go_ret
      rw [hE.out]
      exact ⟨rfl, hB.out⟩

/-- The place of the first one of which q holds, or -1. -/
def idxP {α : Type} (q : α → Bool) (l : List α) : Int := match l.findIdx? q with | some k => k | none => -1
theorem idxP_hit {α : Type} {q : α → Bool} {l : List α} {k : Nat} (hk : k < l.length) (h : q l[k] = true) (hA : ∀ j (hj : j < l.length), j < k → q l[j] = false) : idxP q l = k := by
  have : l.findIdx? q = some k := List.findIdx?_eq_some_iff_getElem.2 ⟨hk, h, fun j hj => by rw [hA j (by omega) hj]; simp⟩
  simp [idxP, this]
theorem idxP_miss {α : Type} {q : α → Bool} {l : List α} (hA : ∀ j (hj : j < l.length), q l[j] = false) : idxP q l = -1 := by
  have : l.findIdx? q = none := List.findIdx?_eq_none_iff.2 fun x hx => by
    obtain ⟨j, hj, rfl⟩ := List.getElem_of_mem hx
    exact hA j hj
  simp [idxP, this]
theorem idxP_any {α : Type} (q : α → Bool) (l : List α) : decide (0 ≤ idxP q l) = l.any q := by
  unfold idxP
  cases h : l.findIdx? q with
  | some k =>
    obtain ⟨hk, h1, -⟩ := List.findIdx?_eq_some_iff_getElem.1 h
    have : l.any q = true := List.any_eq_true.2 ⟨_, List.getElem_mem hk, h1⟩
    rw [this]; simp
  | none =>
    have : l.any q = false := by
      rw [List.any_eq_false]
      intro x hx; rw [List.findIdx?_eq_none_iff.1 h x hx]; simp
    rw [this]; rfl

set_option maxHeartbeats 4000000 in
theorem ixE_any (v : Value) (l : List Ent) (w : World) (Mi : Ms) (h : SlR w Mi v l) (hl : l.length ≤ 1000000000) :
    Calls Try.prog 78 #[v, .func (.func 74) #[] #[]] w fun e w' => e = .returned (.int .i64 (idxP (fun x => !entOk x) l)) ∧ Below w.heap.size w w' := by
  obtain ⟨a, c, rfl⟩ := h.form
  have H := Lib.hid h.bare
  clear h
  go_enter Try.func78, Try.ntmps78
  go_wp2
  go_loopg [5, 8] l.length (fun g s5 s8 wr => ∃ k : Nat, s8 = .int .i64 k ∧ k ≤ l.length ∧ l.length - k ≤ g ∧ Hid (Below w.heap.size w wr) ∧ Hid (∀ j (hj : j < l.length), j < k → (!entOk l[j]) = false))
  case atStart => exact ⟨0, rfl, Nat.zero_le _, by omega, Lib.hid (Below.refl _ _), Lib.hid fun j _ hj => absurd hj (Nat.not_lt_zero _)⟩
  case round =>
    obtain ⟨k, rfl, hk, hg, hB, hA⟩ := hrel
    obtain ⟨w0, rfl⟩ : ∃ w0, w0 = wr := ⟨_, rfl⟩
    by_cases hlt : k < l.length
    · obtain ⟨b1, o1, rfl, -, x1, x2, x3⟩ := ent_at (H.out.mono (Keep.below hB.out)) hlt
      have hlt' : (k : Int) < l.length := by omega
      have hc := Lib.hid (wrong_any l[k] w0)
      unfold ev at hc
      cases hq : (!entOk l[k]) with
      | true =>
        have hE := Lib.hid (idxP_hit (q := fun x => !entOk x) hlt hq hA.out)
        rw [hq] at hc
        clear hq
        go_wp2_with (go_at_call 74; go_must (with_reducible refine hc.out.mono ?_); rintro e w' ⟨rfl, hB2⟩)
        go_ret
        rw [hE.out]
        exact ⟨rfl, hB.out.trans (hB2.mono hB.out.size)⟩
      | false =>
        have hE := Lib.hid (show ∀ j (hj : j < l.length), j < k + 1 → (!entOk l[j]) = false from fun j hj hjk => by
          by_cases e : j = k
          · subst e; exact hq
          · exact hA.out j hj (by omega))
        rw [hq] at hc
        clear hq
        go_wp2_with (go_at_call 74; go_must (with_reducible refine hc.out.mono ?_); rintro e w' ⟨rfl, hB2⟩)
        go_roundg (l.length - (k + 1))
        case measure => omega
        case rel => exact ⟨k + 1, by go_num, by omega, by omega, Lib.hid (hB.out.trans (hB2.mono hB.out.size)), hE⟩
    · obtain rfl : k = l.length := by omega
      have hE := Lib.hid (idxP_miss (q := fun x => !entOk x) (fun j hj => hA.out j hj hj))
      go_wp2
      go_ret
      rw [hE.out]
      exact ⟨rfl, hB.out⟩

set_option maxHeartbeats 4000000 in
theorem cfE_any (v : Value) (l : List Ent) (w : World) (Mi : Ms) (h : SlR w Mi v l) (hl : l.length ≤ 1000000000) :
    Calls Try.prog 76 #[v, .func (.func 74) #[] #[]] w fun e w' => e = .returned (.bool (!l.all entOk)) ∧ Below w.heap.size w w' := by
  have hc := Lib.hid (ixE_any v l w Mi h hl)
  have hE := Lib.hid (show (!l.all entOk) = decide (0 ≤ idxP (fun x => !entOk x) l) by rw [idxP_any, List.not_all_eq_any_not])
  obtain ⟨a, c, rfl⟩ := h.form
  rw [hE.out]
  clear h
  go_enter Try.func76, Try.ntmps76
  go_wp2_with (go_at_call 78; go_must (with_reducible refine hc.out.mono ?_); rintro e w' ⟨rfl, hB⟩)
  go_ret
  exact ⟨rfl, hB⟩

set_option maxHeartbeats 4000000 in
theorem tcheck_any (g : Geo) (v : Value) (l : List Ent) (w : World) (Mi : Ms) (h : SlR w Mi v l) (hl : l.length ≤ 1000000) :
    Calls Try.prog 70 #[gv g, .agg #[v]] w fun e w' => e = .returned (errV (okT g l)) ∧ Below w.heap.size w w' := by
  obtain ⟨a, c, rfl⟩ := h.form
  have hb1 := (Below.refl w.heap.size w).alloc (Nat.le_refl _) (.cells #[.int .i64 g.z, .int .i64 g.d, .int .i64 g.sp, .int .i64 g.sl, .int .i64 g.an] 23)
  have hb2 := hb1.alloc (by simp) (.cells #[.slice a l.length c] 89)
  have hG := (Blk.new w 23 #[.int .i64 g.z, .int .i64 g.d, .int .i64 g.sp, .int .i64 g.sl, .int .i64 g.an]).alloc (.cells #[.slice a l.length c] 89)
  have hT := Blk.new (w.alloc (.cells #[.int .i64 g.z, .int .i64 g.d, .int .i64 g.sp, .int .i64 g.sl, .int .i64 g.an] 23)) 89 #[.slice a l.length c]
  simp only [World.size_alloc] at hT
  have HB := Lib.hid hb2
  have HG := Lib.hid hG
  have HT := Lib.hid hT
  have H := Lib.hid (h.bare.mono (Keep.below hb2))
  have hgc := Lib.hid (gcheck_any g ((w.alloc (.cells #[.int .i64 g.z, .int .i64 g.d, .int .i64 g.sp, .int .i64 g.sl, .int .i64 g.an] 23)).alloc (.cells #[.slice a l.length c] 89)))
  unfold gv at hgc ⊢
  clear hb1 hb2 hG hT
  cases hok : okG g with
  | false =>
    have hE := Lib.hid (show okT g l = false by simp [okT, hok])
    rw [hok] at hgc
    clear hok
    unfold errV at hgc
    go_enter Try.func70, Try.ntmps70
    go_wp2_with (go_at_call 33; go_must (with_reducible refine hgc.out.mono ?_); rintro e w1 ⟨rfl, hB1⟩)
    go_ret
    rw [hE.out]
    exact ⟨rfl, HB.out.trans (hB1.mono HB.out.size)⟩
  | true =>
    rw [hok] at hgc
    unfold errV at hgc
    obtain ⟨z, d, sp, sl, an⟩ := g
    obtain ⟨-, hd, -⟩ := okG_iff.1 hok
    obtain ⟨k, rfl⟩ : ∃ k : Nat, d = k := ⟨d.toNat, by simp only at hd; omega⟩
    have hk1 : (1 : Int) ≤ k := hd.1
    have hk2 : (k : Int) ≤ 4 := hd.2
    have hk0 : (0 : Int) ≤ k := by omega
    clear hd
    simp only at hgc HB HG HT H ⊢
    by_cases hn : l.length = k + 1
    · have hn' : ((l.length : Int) != (k : Int) + 1) = false := by simp; omega
      have hN := Lib.hid hn
      clear hn
      have hrest := fun (w1 : World) (hB : Below w.heap.size w w1) => Lib.hid (cfE_any (.slice a l.length c) l w1 noM (h.bare.mono (Keep.below hB)) (by omega))
      cases hw : l.all entOk with
      | false =>
        have hE := Lib.hid (show okT ⟨z, k, sp, sl, an⟩ l = false by simp [okT, hw])
        have Hw := Lib.hid hw
        clear hok hw
        go_enter Try.func70, Try.ntmps70
        go_wp2_with fail
        ((with_reducible refine hgc.out.mono ?_); rintro e w1 ⟨rfl, hB1⟩)
        obtain ⟨g1, g2, g3⟩ := (HG.out.below hB1).all
        obtain ⟨t1, t2, t3⟩ := (HT.out.below hB1).all
        have HB1 := Lib.hid (HB.out.trans (hB1.mono HB.out.size))
        have hcf := hrest w1 HB1.out
        rw [Hw.out] at hcf
        go_wp2_with fail
        ((with_reducible refine hcf.out.mono ?_); rintro e w2 ⟨rfl, hB2⟩)
        go_wp2
        go_ret
        rw [hE.out]
        exact ⟨rfl, HB1.out.trans (hB2.mono HB1.out.size)⟩
      | true =>
        have hE := Lib.hid (show okT ⟨z, k, sp, sl, an⟩ l = !lostAt l k by simp [okT, hw, hok, hN.out])
        have Hw := Lib.hid hw
        have hkl : k < l.length := by have := hN.out; omega
        have hkl' : (k : Int) < l.length := by omega
        have hL := Lib.hid (show lostAt l k = l[k].lost by simp [lostAt, List.getElem?_eq_getElem hkl])
        clear hok hw
        go_enter Try.func70, Try.ntmps70
        go_wp2_with fail
        ((with_reducible refine hgc.out.mono ?_); rintro e w1 ⟨rfl, hB1⟩)
        obtain ⟨g1, g2, g3⟩ := (HG.out.below hB1).all
        obtain ⟨t1, t2, t3⟩ := (HT.out.below hB1).all
        have HB1 := Lib.hid (HB.out.trans (hB1.mono HB.out.size))
        have hcf := hrest w1 HB1.out
        rw [Hw.out] at hcf
        go_wp2_with fail
        ((with_reducible refine hcf.out.mono ?_); rintro e w2 ⟨rfl, hB2⟩)
        have HB2 := Lib.hid (HB1.out.trans (hB2.mono HB1.out.size))
        obtain ⟨G1, G2, G3⟩ := ((HG.out.below hB1).below hB2).all
        obtain ⟨T1, T2, T3⟩ := ((HT.out.below hB1).below hB2).all
        obtain ⟨bb, off, rfl, -, x1, x2, x3⟩ := ent_at (h.bare.mono (Keep.below HB2.out)) hkl
        cases hlo : l[k].lost with
        | false =>
          rw [hlo] at x3
          have hlo' := Lib.hid hlo
          clear hlo
          go_wp2
          go_ret
          rw [hE.out, hL.out, hlo'.out]
          exact ⟨rfl, HB2.out⟩
        | true =>
          rw [hlo] at x3
          have hlo' := Lib.hid hlo
          clear hlo
          go_wp2
          go_ret
          rw [hE.out, hL.out, hlo'.out]
          exact ⟨rfl, HB2.out⟩
    · have hn' : ((l.length : Int) != (k : Int) + 1) = true := by simp; omega
      have hE := Lib.hid (show okT ⟨z, k, sp, sl, an⟩ l = false by
        have : ¬ ((l.length : Int) = (k : Int) + 1) := by omega
        simp [okT, this])
      clear hok hn
      go_enter Try.func70, Try.ntmps70
      go_wp2_with fail
      ((with_reducible refine hgc.out.mono ?_); rintro e w1 ⟨rfl, hB1⟩)
      obtain ⟨g1, g2, g3⟩ := (HG.out.below hB1).all
      obtain ⟨t1, t2, t3⟩ := (HT.out.below hB1).all
      go_wp2
      go_ret
      rw [hE.out]
      exact ⟨rfl, HB.out.trans (hB1.mono HB.out.size)⟩
end Go.Proofs.Ytpknhpfbinplgaa
