/-
The contract of casematekeep.Disk.
-/
import Derived.Test.YtkdjacmabeeceaaKeep
namespace Go.Proofs.Ytkdjacmabeeceaa
open Go.RowKit
attribute [local go_sem ↓] Go.wp_at_zero Go.wp_at_succ

theorem cel_ext {x y : Cel} (h1 : x.state = y.state) (h2 : x.bytes = y.bytes) (h3 : x.old = y.old) : x = y := by cases x; cases y; simp_all
/-- What a round of the comparison looks at. -/
def SD8 (g1 g2 b1 b2 o1 o2 k c1 c2 : Nat) (a1 a2 : Option Addr) (n1 n2 : Nat) (x y : Cel) (ab1 ab2 : Option Addr) (cb1 cb2 : Nat) (ao1 ao2 : Option Addr) (co1 co2 : Nat) (w' : World) : Prop :=
  w'.cell? ⟨g1, 0, none⟩ = some (.slice a1 n1 c1) ∧ w'.cell? ⟨g2, 0, none⟩ = some (.slice a2 n2 c2) ∧
  w'.cell? ⟨b1, o1 + k * 3, none⟩ = some (.int .i64 x.state) ∧ w'.cell? ⟨b1, o1 + k * 3 + 1, none⟩ = some (.slice ab1 x.bytes.length cb1) ∧ w'.cell? ⟨b1, o1 + k * 3 + 2, none⟩ = some (.slice ao1 x.old.length co1) ∧
  w'.cell? ⟨b2, o2 + k * 3, none⟩ = some (.int .i64 y.state) ∧ w'.cell? ⟨b2, o2 + k * 3 + 1, none⟩ = some (.slice ab2 y.bytes.length cb2) ∧ w'.cell? ⟨b2, o2 + k * 3 + 2, none⟩ = some (.slice ao2 y.old.length co2)
theorem SD8.below {g1 g2 b1 b2 o1 o2 k c1 c2 : Nat} {a1 a2 : Option Addr} {n1 n2 : Nat} {x y : Cel} {ab1 ab2 : Option Addr} {cb1 cb2 : Nat} {ao1 ao2 : Option Addr} {co1 co2 : Nat} {w w' : World} (hB : Below w.heap.size w w')
    (h : SD8 g1 g2 b1 b2 o1 o2 k c1 c2 a1 a2 n1 n2 x y ab1 ab2 cb1 cb2 ao1 ao2 co1 co2 w) : SD8 g1 g2 b1 b2 o1 o2 k c1 c2 a1 a2 n1 n2 x y ab1 ab2 cb1 cb2 ao1 ao2 co1 co2 w' := by
  obtain ⟨h1, h2, h3, h4, h5, h6, h7, h8⟩ := h
  exact ⟨below_cell hB h1, below_cell hB h2, below_cell hB h3, below_cell hB h4, below_cell hB h5, below_cell hB h6, below_cell hB h7, below_cell hB h8⟩
theorem dis_ext {x y : Dis} (h1 : x.cells = y.cells) (h2 : x.cache = y.cache) (h3 : x.reqs = y.reqs) (h4 : x.left = y.left) : x = y := by cases x; cases y; simp_all

set_option maxHeartbeats 4000000 in
theorem disk_any (v1 v2 : Value) (d1 d2 : Dis) (w : World) (M1 M2 : Ms) (h1 : Rv w M1 v1 d1) (h2 : Rv w M2 v2 d2) (hs : smD d1) :
    Calls Try.prog 20 #[v1, v2] w fun e w' => e = .returned (.bool (decide (d1 = d2))) ∧ Below w.heap.size w w' := by
  obtain ⟨x1, y1, rfl, hc1, hk1⟩ := rv_dis.1 h1
  obtain ⟨x2, y2, rfl, hc2, hk2⟩ := rv_dis.1 h2
  obtain ⟨a1, c1, rfl⟩ := hc1.form
  obtain ⟨a2, c2, rfl⟩ := hc2.form
  obtain ⟨ak1, ck1, rfl⟩ := hk1.form
  obtain ⟨ak2, ck2, rfl⟩ := hk2.form
  have hB := Lib.hid (((Below.refl w.heap.size w).alloc (Nat.le_refl _) (.cells #[.slice a1 d1.cells.length c1, .slice ak1 d1.cache.length ck1, .int .i64 d1.reqs, .int .i64 d1.left] 27)).alloc (by simp) (.cells #[.slice a2 d2.cells.length c2, .slice ak2 d2.cache.length ck2, .int .i64 d2.reqs, .int .i64 d2.left] 27))
  have hq1 := Lib.hid ((Blk.new w 27 #[.slice a1 d1.cells.length c1, .slice ak1 d1.cache.length ck1, .int .i64 d1.reqs, .int .i64 d1.left]).alloc (.cells #[.slice a2 d2.cells.length c2, .slice ak2 d2.cache.length ck2, .int .i64 d2.reqs, .int .i64 d2.left] 27))
  have hq2 := Blk.new (w.alloc (.cells #[.slice a1 d1.cells.length c1, .slice ak1 d1.cache.length ck1, .int .i64 d1.reqs, .int .i64 d1.left] 27)) 27 #[.slice a2 d2.cells.length c2, .slice ak2 d2.cache.length ck2, .int .i64 d2.reqs, .int .i64 d2.left]
  rw [show (w.alloc (.cells #[.slice a1 d1.cells.length c1, .slice ak1 d1.cache.length ck1, .int .i64 d1.reqs, .int .i64 d1.left] 27)).heap.size = w.heap.size + 1 by simp] at hq2
  have hq2 := Lib.hid hq2
  have hpw := Lib.hid (writes_any _ _ d1.cache d2.cache _ _ _ (hk1.mono (Keep.below hB.out)) (hk2.mono (Keep.below hB.out)) hs.2.1 hs.2.2.2)
  have H1 := Lib.hid (hc1.mono (Keep.below hB.out))
  have H2 := Lib.hid (hc2.mono (Keep.below hB.out))
  have hl : d1.cells.length ≤ 1000000000 := hs.1
  have Hs := Lib.hid hs
  clear h1 h2 hc1 hc2 hk1 hk2 hs
  by_cases hlen : d1.cells.length = d2.cells.length
  case neg =>
    have hne' : ((d1.cells.length : Int) != d2.cells.length) = true := by simp; omega
    have hR := Lib.hid (show decide (d1 = d2) = false by simp only [decide_eq_false_iff_not]; intro e; exact hlen (by rw [e]))
    clear hlen
    go_enter Try.func20, Try.ntmps20
    go_wp2
    go_ret
    rw [hR.out]
    exact ⟨rfl, hB.out⟩
  have hlen' : ((d1.cells.length : Int) != d2.cells.length) = false := by simp [hlen]
  have Hlen := Lib.hid hlen
  clear hlen
  cases hcc : decide (d1.cache = d2.cache)
  · have hR := Lib.hid (show decide (d1 = d2) = false by simp only [decide_eq_false_iff_not] at hcc ⊢; intro e; exact hcc (by rw [e]))
    rw [hcc] at hpw
    clear hcc
    go_enter Try.func20, Try.ntmps20
    go_wp2_with (go_at_call 23; refine hpw.out.mono ?_; rintro e w1 ⟨rfl, hB1⟩)
    go_ret
    rw [hR.out]
    exact ⟨rfl, hB.out.trans (hB1.mono hB.out.size)⟩
  have Hcc := Lib.hid (of_decide_eq_true hcc)
  rw [hcc] at hpw
  clear hcc
  by_cases hre : d1.reqs = d2.reqs
  case neg =>
    have hne' : (d1.reqs != d2.reqs) = true := by simpa using hre
    have hR := Lib.hid (show decide (d1 = d2) = false by simp only [decide_eq_false_iff_not]; intro e; exact hre (by rw [e]))
    clear hre
    go_enter Try.func20, Try.ntmps20
    go_wp2_with (go_at_call 23; refine hpw.out.mono ?_; rintro e w1 ⟨rfl, hB1⟩; have y1 := (hq1.out.below hB1).cell; have y2 := (hq2.out.below hB1).cell)
    go_ret
    rw [hR.out]
    exact ⟨rfl, hB.out.trans (hB1.mono hB.out.size)⟩
  have hre' : (d1.reqs != d2.reqs) = false := by simp [hre]
  have Hre := Lib.hid hre
  clear hre
  by_cases hle : d1.left = d2.left
  case neg =>
    have hne' : (d1.left != d2.left) = true := by simpa using hle
    have hR := Lib.hid (show decide (d1 = d2) = false by simp only [decide_eq_false_iff_not]; intro e; exact hle (by rw [e]))
    clear hle
    go_enter Try.func20, Try.ntmps20
    go_wp2_with (go_at_call 23; refine hpw.out.mono ?_; rintro e w1 ⟨rfl, hB1⟩; have y1 := (hq1.out.below hB1).cell; have y2 := (hq2.out.below hB1).cell)
    go_ret
    rw [hR.out]
    exact ⟨rfl, hB.out.trans (hB1.mono hB.out.size)⟩
  have hle' : (d1.left != d2.left) = false := by simp [hle]
  have Hle := Lib.hid hle
  clear hle
  go_enter Try.func20, Try.ntmps20
  go_wp2_with (go_at_call 23; refine hpw.out.mono ?_; rintro e w1 ⟨rfl, hB1⟩; have y1 := (hq1.out.below hB1).cell; have y2 := (hq2.out.below hB1).cell)
  clear hlen' hre' hle'
  have Hw1 := Lib.hid (And.intro (hB.out.trans (hB1.mono hB.out.size)) (And.intro (hq1.out.below hB1) (hq2.out.below hB1)))
  have G1 := Lib.hid (H1.out.mono (Keep.below hB1))
  have G2 := Lib.hid (H2.out.mono (Keep.below hB1))
  clear y1 y2 hq1 hq2 hpw hB hB1 H1 H2
  go_loopw [5] (fun i wr => ∃ k : Nat, k ≤ d1.cells.length ∧ i = .int .i64 k ∧ Below w1.heap.size w1 wr ∧ Hid (d1.cells.take k = d2.cells.take k)) (fun i _ => d1.cells.length - (intOf i).toNat)
  case atStart => exact ⟨0, Nat.zero_le _, rfl, Below.refl _ _, by simp [Hid]⟩
  case round =>
    obtain ⟨k, hk, rfl, hB, heq⟩ := hrel
    have y1 := (Hw1.out.2.1.below hB).cell
    have y2 := (Hw1.out.2.2.below hB).cell
    by_cases hlt : k < d1.cells.length
    · have hlt2 : k < d2.cells.length := by rw [← Hlen.out]; exact hlt
      obtain ⟨b1, o1, vb1, vo1, rfl, -, p1, p2, p3, z1, u1⟩ := cel_at (G1.out.mono (Keep.below hB)) hlt
      obtain ⟨b2, o2, vb2, vo2, rfl, -, q1, q2, q3, z2, u2⟩ := cel_at (G2.out.mono (Keep.below hB)) hlt2
      obtain ⟨ab1, cb1, rfl⟩ := z1.form
      obtain ⟨ab2, cb2, rfl⟩ := z2.form
      obtain ⟨ao1, co1, rfl⟩ := u1.form
      obtain ⟨ao2, co2, rfl⟩ := u2.form
      have hbk := Lib.hid (Hs.out.2.2.1 d1.cells[k] (List.getElem_mem hlt))
      have Z1 := Lib.hid (z1.mono (Keep.below (below_drew wr)))
      have Z2 := Lib.hid (z2.mono (Keep.below (below_drew wr)))
      have U1 := Lib.hid (u1.mono (Keep.below (below_drew wr)))
      have U2 := Lib.hid (u2.mono (Keep.below (below_drew wr)))
      have hS := Lib.hid (show SD8 w.heap.size (w.heap.size + 1) b1 b2 o1 o2 k c1 c2 (some ⟨b1, o1, none⟩) (some ⟨b2, o2, none⟩) d1.cells.length d2.cells.length d1.cells[k] d2.cells[k] ab1 ab2 cb1 cb2 ao1 ao2 co1 co2 wr.drew from ⟨y1 0, y2 0, p1, p2, p3, q1, q2, q3⟩)
      clear p1 p2 p3 q1 q2 q3 z1 z2 u1 u2
      go_wp2_with fail
      clear y1 y2
      refine rg_enter [0, 1, 2, 3, 4, 5, 6, 7, 8, 9, 10, 11, 12, 13, 14, 15, 16, 17, 18, 19, 20, 21, 22, 23, 24, 25, 27, 28, 29, 30, 31, 32, 33, 34, 35, 36, 37, 38, 39, 40, 41, 43, 44] (SD8 w.heap.size (w.heap.size + 1) b1 b2 o1 o2 k c1 c2 (some ⟨b1, o1, none⟩) (some ⟨b2, o2, none⟩) d1.cells.length d2.cells.length d1.cells[k] d2.cells[k] ab1 ab2 cb1 cb2 ao1 ao2 co1 co2) (by kernel_rfl) ?_
      apply rg_take 0 rfl (by kernel_rfl) (fun _ _ _ h => h) (hS.out) rfl
      · (rintro W ⟨s0, s1, s2, s3, s4, s5, s6, s7⟩; go_simp; try rfl)
      · (go_simp; try rfl)
      apply rg_take 1 rfl (by kernel_rfl) (fun _ _ _ h => h) (hS.out) rfl
      · (rintro W ⟨s0, s1, s2, s3, s4, s5, s6, s7⟩; go_simp; try rfl)
      · (go_simp; try rfl)
      apply rg_take 2 rfl (by kernel_rfl) (fun _ _ _ h => h) (hS.out) rfl
      · (rintro W ⟨s0, s1, s2, s3, s4, s5, s6, s7⟩; go_simp; try rfl)
      · (go_simp; try rfl)
      apply rg_take 3 rfl (by kernel_rfl) (fun _ _ _ h => h) (hS.out) rfl
      · (rintro W ⟨s0, s1, s2, s3, s4, s5, s6, s7⟩; go_simp; try rfl)
      · (go_simp; try rfl)
      apply rg_take 4 rfl (by kernel_rfl) (fun _ _ _ h => h) (hS.out) rfl
      · (rintro W ⟨s0, s1, s2, s3, s4, s5, s6, s7⟩; go_simp; try rfl)
      · (go_simp; try rfl)
      apply rg_take 5 rfl (by kernel_rfl) (fun _ _ _ h => h) (hS.out) rfl
      · (rintro W ⟨s0, s1, s2, s3, s4, s5, s6, s7⟩; go_simp; try rfl)
      · (go_simp; try rfl)
      apply rg_take 6 rfl (by kernel_rfl) (fun _ _ _ h => h) (hS.out) rfl
      · (rintro W ⟨s0, s1, s2, s3, s4, s5, s6, s7⟩; go_simp; try rfl)
      · (go_simp; try rfl)
      apply rg_take 7 rfl (by kernel_rfl) (fun _ _ _ h => h) (hS.out) rfl
      · (rintro W ⟨s0, s1, s2, s3, s4, s5, s6, s7⟩; go_simp; try rfl)
      · (go_simp; try rfl)
      apply rg_take 8 rfl (by kernel_rfl) (fun _ _ _ h => h) (hS.out) rfl
      · (rintro W ⟨s0, s1, s2, s3, s4, s5, s6, s7⟩; go_simp; try rfl)
      · (go_simp; try rfl)
      apply rg_take 9 rfl (by kernel_rfl) (fun _ _ _ h => h) (hS.out) rfl
      · (rintro W ⟨s0, s1, s2, s3, s4, s5, s6, s7⟩; go_simp; try rfl)
      · (go_simp; try rfl)
      apply rg_take 10 rfl (by kernel_rfl) (fun _ _ _ h => h) (hS.out) rfl
      · (rintro W ⟨s0, s1, s2, s3, s4, s5, s6, s7⟩; go_simp; try rfl)
      · (go_simp; try rfl)
      apply rg_take 11 rfl (by kernel_rfl) (fun _ _ _ h => h) (hS.out) rfl
      · (rintro W ⟨s0, s1, s2, s3, s4, s5, s6, s7⟩; go_simp; try rfl)
      · (go_simp; try rfl)
      have hBd := Lib.hid hB.drew
      clear hB
      by_cases hst : d1.cells[k].state = d2.cells[k].state
      case neg =>
        have hab : (d1.cells[k].state != d2.cells[k].state) = true := by simp [hst]
        have hR := Lib.hid (show decide (d1 = d2) = false by simp only [decide_eq_false_iff_not]; intro e; subst e; exact hst rfl)
        clear hst
        apply rg_take 12 rfl (by kernel_rfl) (fun _ _ _ h => h) (hS.out) rfl
        · (rintro W ⟨s0, s1, s2, s3, s4, s5, s6, s7⟩; go_simp; try rfl)
        · (go_simp; try rfl)
        apply rg_take 13 rfl (by kernel_rfl) (fun _ _ _ h => h) (hS.out) rfl
        · (rintro W ⟨s0, s1, s2, s3, s4, s5, s6, s7⟩; go_simp; try rfl)
        · (go_simp; try rfl)
        apply rg_skip 14 rfl (by kernel_rfl) (fun _ _ _ h => h) (hS.out) rfl
        · (go_simp; try rfl)
        apply rg_skip 15 rfl (by kernel_rfl) (fun _ _ _ h => h) (hS.out) rfl
        · (go_simp; try rfl)
        apply rg_skip 16 rfl (by kernel_rfl) (fun _ _ _ h => h) (hS.out) rfl
        · (go_simp; try rfl)
        apply rg_skip 17 rfl (by kernel_rfl) (fun _ _ _ h => h) (hS.out) rfl
        · (go_simp; try rfl)
        apply rg_skip 18 rfl (by kernel_rfl) (fun _ _ _ h => h) (hS.out) rfl
        · (go_simp; try rfl)
        apply rg_skip 19 rfl (by kernel_rfl) (fun _ _ _ h => h) (hS.out) rfl
        · (go_simp; try rfl)
        apply rg_skip 20 rfl (by kernel_rfl) (fun _ _ _ h => h) (hS.out) rfl
        · (go_simp; try rfl)
        apply rg_skip 21 rfl (by kernel_rfl) (fun _ _ _ h => h) (hS.out) rfl
        · (go_simp; try rfl)
        apply rg_skip 22 rfl (by kernel_rfl) (fun _ _ _ h => h) (hS.out) rfl
        · (go_simp; try rfl)
        apply rg_skip 23 rfl (by kernel_rfl) (fun _ _ _ h => h) (hS.out) rfl
        · (go_simp; try rfl)
        apply rg_skip 24 rfl (by kernel_rfl) (fun _ _ _ h => h) (hS.out) rfl
        · (go_simp; try rfl)
        apply rg_skip 25 rfl (by kernel_rfl) (fun _ _ _ h => h) (hS.out) rfl
        · (go_simp; try rfl)
        refine rg_only 26 (by kernel_rfl) rfl (fun K hK => ?_)
        go_simp
        refine hK _ _ ⟨fun _ => hS.out, ?_⟩; clear hK K
        apply rg_skip 27 rfl (by kernel_rfl) (fun _ _ _ h => h) (hS.out) rfl
        · (go_simp; try rfl)
        apply rg_take 28 rfl (by kernel_rfl) (fun _ _ _ h => h) (hS.out) rfl
        · (rintro W ⟨s0, s1, s2, s3, s4, s5, s6, s7⟩; go_simp; try rfl)
        · (go_simp; try rfl)
        apply rg_take 29 rfl (by kernel_rfl) (fun _ _ _ h => h) (hS.out) rfl
        · (rintro W ⟨s0, s1, s2, s3, s4, s5, s6, s7⟩; go_simp; try rfl)
        · (go_simp; try rfl)
        apply rg_skip 30 rfl (by kernel_rfl) (fun _ _ _ h => h) (hS.out) rfl
        · (go_simp; try rfl)
        apply rg_skip 31 rfl (by kernel_rfl) (fun _ _ _ h => h) (hS.out) rfl
        · (go_simp; try rfl)
        apply rg_skip 32 rfl (by kernel_rfl) (fun _ _ _ h => h) (hS.out) rfl
        · (go_simp; try rfl)
        apply rg_skip 33 rfl (by kernel_rfl) (fun _ _ _ h => h) (hS.out) rfl
        · (go_simp; try rfl)
        apply rg_skip 34 rfl (by kernel_rfl) (fun _ _ _ h => h) (hS.out) rfl
        · (go_simp; try rfl)
        apply rg_skip 35 rfl (by kernel_rfl) (fun _ _ _ h => h) (hS.out) rfl
        · (go_simp; try rfl)
        apply rg_skip 36 rfl (by kernel_rfl) (fun _ _ _ h => h) (hS.out) rfl
        · (go_simp; try rfl)
        apply rg_skip 37 rfl (by kernel_rfl) (fun _ _ _ h => h) (hS.out) rfl
        · (go_simp; try rfl)
        apply rg_skip 38 rfl (by kernel_rfl) (fun _ _ _ h => h) (hS.out) rfl
        · (go_simp; try rfl)
        apply rg_skip 39 rfl (by kernel_rfl) (fun _ _ _ h => h) (hS.out) rfl
        · (go_simp; try rfl)
        apply rg_skip 40 rfl (by kernel_rfl) (fun _ _ _ h => h) (hS.out) rfl
        · (go_simp; try rfl)
        apply rg_skip 41 rfl (by kernel_rfl) (fun _ _ _ h => h) (hS.out) rfl
        · (go_simp; try rfl)
        refine rg_only 42 (by kernel_rfl) rfl (fun K hK => ?_)
        go_simp
        refine hK _ _ ⟨fun _ => hS.out, ?_⟩; clear hK K
        apply rg_skip 43 rfl (by kernel_rfl) (fun _ _ _ h => h) (hS.out) rfl
        · (go_simp; try rfl)
        apply rg_take 44 rfl (by kernel_rfl) (fun _ _ _ h => h) (hS.out) rfl
        · (rintro W ⟨s0, s1, s2, s3, s4, s5, s6, s7⟩; go_simp; try rfl)
        · (go_simp; try rfl)
        refine rg_done (by kernel_rfl) ?_
        go_wp2
        go_ret
        rw [hR.out]
        exact ⟨rfl, Hw1.out.1.trans (hBd.out.mono Hw1.out.1.size)⟩
      have hab : (d1.cells[k].state != d2.cells[k].state) = false := by simp [hst]
      have Hst := Lib.hid hst
      clear hst
      apply rg_take 12 rfl (by kernel_rfl) (fun _ _ _ h => h) (hS.out) rfl
      · (rintro W ⟨s0, s1, s2, s3, s4, s5, s6, s7⟩; go_simp; try rfl)
      · (go_simp; try rfl)
      apply rg_take 13 rfl (by kernel_rfl) (fun _ _ _ h => h) (hS.out) rfl
      · (rintro W ⟨s0, s1, s2, s3, s4, s5, s6, s7⟩; go_simp; try rfl)
      · (go_simp; try rfl)
      apply rg_take 14 rfl (by kernel_rfl) (fun _ _ _ h => h) (hS.out) rfl
      · (rintro W ⟨s0, s1, s2, s3, s4, s5, s6, s7⟩; go_simp; try rfl)
      · (go_simp; try rfl)
      apply rg_take 15 rfl (by kernel_rfl) (fun _ _ _ h => h) (hS.out) rfl
      · (rintro W ⟨s0, s1, s2, s3, s4, s5, s6, s7⟩; go_simp; try rfl)
      · (go_simp; try rfl)
      apply rg_take 16 rfl (by kernel_rfl) (fun _ _ _ h => h) (hS.out) rfl
      · (rintro W ⟨s0, s1, s2, s3, s4, s5, s6, s7⟩; go_simp; try rfl)
      · (go_simp; try rfl)
      apply rg_take 17 rfl (by kernel_rfl) (fun _ _ _ h => h) (hS.out) rfl
      · (rintro W ⟨s0, s1, s2, s3, s4, s5, s6, s7⟩; go_simp; try rfl)
      · (go_simp; try rfl)
      apply rg_take 18 rfl (by kernel_rfl) (fun _ _ _ h => h) (hS.out) rfl
      · (rintro W ⟨s0, s1, s2, s3, s4, s5, s6, s7⟩; go_simp; try rfl)
      · (go_simp; try rfl)
      apply rg_take 19 rfl (by kernel_rfl) (fun _ _ _ h => h) (hS.out) rfl
      · (rintro W ⟨s0, s1, s2, s3, s4, s5, s6, s7⟩; go_simp; try rfl)
      · (go_simp; try rfl)
      apply rg_take 20 rfl (by kernel_rfl) (fun _ _ _ h => h) (hS.out) rfl
      · (rintro W ⟨s0, s1, s2, s3, s4, s5, s6, s7⟩; go_simp; try rfl)
      · (go_simp; try rfl)
      apply rg_take 21 rfl (by kernel_rfl) (fun _ _ _ h => h) (hS.out) rfl
      · (rintro W ⟨s0, s1, s2, s3, s4, s5, s6, s7⟩; go_simp; try rfl)
      · (go_simp; try rfl)
      apply rg_take 22 rfl (by kernel_rfl) (fun _ _ _ h => h) (hS.out) rfl
      · (rintro W ⟨s0, s1, s2, s3, s4, s5, s6, s7⟩; go_simp; try rfl)
      · (go_simp; try rfl)
      apply rg_take 23 rfl (by kernel_rfl) (fun _ _ _ h => h) (hS.out) rfl
      · (rintro W ⟨s0, s1, s2, s3, s4, s5, s6, s7⟩; go_simp; try rfl)
      · (go_simp; try rfl)
      apply rg_take 24 rfl (by kernel_rfl) (fun _ _ _ h => h) (hS.out) rfl
      · (rintro W ⟨s0, s1, s2, s3, s4, s5, s6, s7⟩; go_simp; try rfl)
      · (go_simp; try rfl)
      apply rg_take 25 rfl (by kernel_rfl) (fun _ _ _ h => h) (hS.out) rfl
      · (rintro W ⟨s0, s1, s2, s3, s4, s5, s6, s7⟩; go_simp; try rfl)
      · (go_simp; try rfl)
      have hpx := Lib.hid (bytes_any _ _ d1.cells[k].bytes d2.cells[k].bytes _ _ _ Z1.out Z2.out hbk.out.1)
      cases hbe : decide (d1.cells[k].bytes = d2.cells[k].bytes)
      · have hR := Lib.hid (show decide (d1 = d2) = false by simp only [decide_eq_false_iff_not] at hbe ⊢; intro e; subst e; exact hbe rfl)
        rw [hbe] at hpx
        clear hbe
        refine rg_only 26 (by kernel_rfl) rfl (fun K hK => ?_)
        go_simp
        refine hpx.out.mono ?_
        rintro e w2 ⟨rfl, hB2⟩
        have hS2 := Lib.hid (SD8.below hB2 hS.out)
        refine hK _ _ ⟨fun _ => hS2.out, ?_⟩; clear hK K
        apply rg_take 27 rfl (by kernel_rfl) (fun _ _ _ h => h) (hS2.out) rfl
        · (rintro W ⟨s0, s1, s2, s3, s4, s5, s6, s7⟩; go_simp; try rfl)
        · (go_simp; try rfl)
        apply rg_take 28 rfl (by kernel_rfl) (fun _ _ _ h => h) (hS2.out) rfl
        · (rintro W ⟨s0, s1, s2, s3, s4, s5, s6, s7⟩; go_simp; try rfl)
        · (go_simp; try rfl)
        apply rg_take 29 rfl (by kernel_rfl) (fun _ _ _ h => h) (hS2.out) rfl
        · (rintro W ⟨s0, s1, s2, s3, s4, s5, s6, s7⟩; go_simp; try rfl)
        · (go_simp; try rfl)
        apply rg_skip 30 rfl (by kernel_rfl) (fun _ _ _ h => h) (hS2.out) rfl
        · (go_simp; try rfl)
        apply rg_skip 31 rfl (by kernel_rfl) (fun _ _ _ h => h) (hS2.out) rfl
        · (go_simp; try rfl)
        apply rg_skip 32 rfl (by kernel_rfl) (fun _ _ _ h => h) (hS2.out) rfl
        · (go_simp; try rfl)
        apply rg_skip 33 rfl (by kernel_rfl) (fun _ _ _ h => h) (hS2.out) rfl
        · (go_simp; try rfl)
        apply rg_skip 34 rfl (by kernel_rfl) (fun _ _ _ h => h) (hS2.out) rfl
        · (go_simp; try rfl)
        apply rg_skip 35 rfl (by kernel_rfl) (fun _ _ _ h => h) (hS2.out) rfl
        · (go_simp; try rfl)
        apply rg_skip 36 rfl (by kernel_rfl) (fun _ _ _ h => h) (hS2.out) rfl
        · (go_simp; try rfl)
        apply rg_skip 37 rfl (by kernel_rfl) (fun _ _ _ h => h) (hS2.out) rfl
        · (go_simp; try rfl)
        apply rg_skip 38 rfl (by kernel_rfl) (fun _ _ _ h => h) (hS2.out) rfl
        · (go_simp; try rfl)
        apply rg_skip 39 rfl (by kernel_rfl) (fun _ _ _ h => h) (hS2.out) rfl
        · (go_simp; try rfl)
        apply rg_skip 40 rfl (by kernel_rfl) (fun _ _ _ h => h) (hS2.out) rfl
        · (go_simp; try rfl)
        apply rg_skip 41 rfl (by kernel_rfl) (fun _ _ _ h => h) (hS2.out) rfl
        · (go_simp; try rfl)
        refine rg_only 42 (by kernel_rfl) rfl (fun K hK => ?_)
        go_simp
        refine hK _ _ ⟨fun _ => hS2.out, ?_⟩; clear hK K
        apply rg_skip 43 rfl (by kernel_rfl) (fun _ _ _ h => h) (hS2.out) rfl
        · (go_simp; try rfl)
        apply rg_take 44 rfl (by kernel_rfl) (fun _ _ _ h => h) (hS2.out) rfl
        · (rintro W ⟨s0, s1, s2, s3, s4, s5, s6, s7⟩; go_simp; try rfl)
        · (go_simp; try rfl)
        refine rg_done (by kernel_rfl) ?_
        go_wp2
        go_ret
        rw [hR.out]
        exact ⟨rfl, (Hw1.out.1.trans (hBd.out.mono Hw1.out.1.size)).trans (hB2.mono (Nat.le_trans Hw1.out.1.size hBd.out.size))⟩
      have Hbe := Lib.hid (of_decide_eq_true hbe)
      rw [hbe] at hpx
      clear hbe
      refine rg_only 26 (by kernel_rfl) rfl (fun K hK => ?_)
      go_simp
      refine hpx.out.mono ?_
      rintro e w2 ⟨rfl, hB2⟩
      have hS2 := Lib.hid (SD8.below hB2 hS.out)
      have hpy := Lib.hid (bytes_any _ _ d1.cells[k].old d2.cells[k].old w2 _ _ (U1.out.mono (Keep.below hB2)) (U2.out.mono (Keep.below hB2)) hbk.out.2)
      have hB2' := Lib.hid (hBd.out.trans (hB2.mono hBd.out.size))
      clear hB2
      refine hK _ _ ⟨fun _ => hS2.out, ?_⟩; clear hK K
      apply rg_take 27 rfl (by kernel_rfl) (fun _ _ _ h => h) (hS2.out) rfl
      · (rintro W ⟨s0, s1, s2, s3, s4, s5, s6, s7⟩; go_simp; try rfl)
      · (go_simp; try rfl)
      apply rg_take 28 rfl (by kernel_rfl) (fun _ _ _ h => h) (hS2.out) rfl
      · (rintro W ⟨s0, s1, s2, s3, s4, s5, s6, s7⟩; go_simp; try rfl)
      · (go_simp; try rfl)
      apply rg_take 29 rfl (by kernel_rfl) (fun _ _ _ h => h) (hS2.out) rfl
      · (rintro W ⟨s0, s1, s2, s3, s4, s5, s6, s7⟩; go_simp; try rfl)
      · (go_simp; try rfl)
      apply rg_take 30 rfl (by kernel_rfl) (fun _ _ _ h => h) (hS2.out) rfl
      · (rintro W ⟨s0, s1, s2, s3, s4, s5, s6, s7⟩; go_simp; try rfl)
      · (go_simp; try rfl)
      apply rg_take 31 rfl (by kernel_rfl) (fun _ _ _ h => h) (hS2.out) rfl
      · (rintro W ⟨s0, s1, s2, s3, s4, s5, s6, s7⟩; go_simp; try rfl)
      · (go_simp; try rfl)
      apply rg_take 32 rfl (by kernel_rfl) (fun _ _ _ h => h) (hS2.out) rfl
      · (rintro W ⟨s0, s1, s2, s3, s4, s5, s6, s7⟩; go_simp; try rfl)
      · (go_simp; try rfl)
      apply rg_take 33 rfl (by kernel_rfl) (fun _ _ _ h => h) (hS2.out) rfl
      · (rintro W ⟨s0, s1, s2, s3, s4, s5, s6, s7⟩; go_simp; try rfl)
      · (go_simp; try rfl)
      apply rg_take 34 rfl (by kernel_rfl) (fun _ _ _ h => h) (hS2.out) rfl
      · (rintro W ⟨s0, s1, s2, s3, s4, s5, s6, s7⟩; go_simp; try rfl)
      · (go_simp; try rfl)
      apply rg_take 35 rfl (by kernel_rfl) (fun _ _ _ h => h) (hS2.out) rfl
      · (rintro W ⟨s0, s1, s2, s3, s4, s5, s6, s7⟩; go_simp; try rfl)
      · (go_simp; try rfl)
      apply rg_take 36 rfl (by kernel_rfl) (fun _ _ _ h => h) (hS2.out) rfl
      · (rintro W ⟨s0, s1, s2, s3, s4, s5, s6, s7⟩; go_simp; try rfl)
      · (go_simp; try rfl)
      apply rg_take 37 rfl (by kernel_rfl) (fun _ _ _ h => h) (hS2.out) rfl
      · (rintro W ⟨s0, s1, s2, s3, s4, s5, s6, s7⟩; go_simp; try rfl)
      · (go_simp; try rfl)
      apply rg_take 38 rfl (by kernel_rfl) (fun _ _ _ h => h) (hS2.out) rfl
      · (rintro W ⟨s0, s1, s2, s3, s4, s5, s6, s7⟩; go_simp; try rfl)
      · (go_simp; try rfl)
      apply rg_take 39 rfl (by kernel_rfl) (fun _ _ _ h => h) (hS2.out) rfl
      · (rintro W ⟨s0, s1, s2, s3, s4, s5, s6, s7⟩; go_simp; try rfl)
      · (go_simp; try rfl)
      apply rg_take 40 rfl (by kernel_rfl) (fun _ _ _ h => h) (hS2.out) rfl
      · (rintro W ⟨s0, s1, s2, s3, s4, s5, s6, s7⟩; go_simp; try rfl)
      · (go_simp; try rfl)
      apply rg_take 41 rfl (by kernel_rfl) (fun _ _ _ h => h) (hS2.out) rfl
      · (rintro W ⟨s0, s1, s2, s3, s4, s5, s6, s7⟩; go_simp; try rfl)
      · (go_simp; try rfl)
      cases hoe : decide (d1.cells[k].old = d2.cells[k].old)
      · have hR := Lib.hid (show decide (d1 = d2) = false by simp only [decide_eq_false_iff_not] at hoe ⊢; intro e; subst e; exact hoe rfl)
        rw [hoe] at hpy
        clear hoe
        refine rg_only 42 (by kernel_rfl) rfl (fun K hK => ?_)
        go_simp
        refine hpy.out.mono ?_
        rintro e w3 ⟨rfl, hB3⟩
        have hS3 := Lib.hid (SD8.below hB3 hS2.out)
        refine hK _ _ ⟨fun _ => hS3.out, ?_⟩; clear hK K
        apply rg_take 43 rfl (by kernel_rfl) (fun _ _ _ h => h) (hS3.out) rfl
        · (rintro W ⟨s0, s1, s2, s3, s4, s5, s6, s7⟩; go_simp; try rfl)
        · (go_simp; try rfl)
        apply rg_take 44 rfl (by kernel_rfl) (fun _ _ _ h => h) (hS3.out) rfl
        · (rintro W ⟨s0, s1, s2, s3, s4, s5, s6, s7⟩; go_simp; try rfl)
        · (go_simp; try rfl)
        refine rg_done (by kernel_rfl) ?_
        go_wp2
        go_ret
        rw [hR.out]
        exact ⟨rfl, (Hw1.out.1.trans (hB2'.out.mono Hw1.out.1.size)).trans (hB3.mono (Nat.le_trans Hw1.out.1.size hB2'.out.size))⟩
      have Hoe := Lib.hid (of_decide_eq_true hoe)
      rw [hoe] at hpy
      clear hoe
      refine rg_only 42 (by kernel_rfl) rfl (fun K hK => ?_)
      go_simp
      refine hpy.out.mono ?_
      rintro e w3 ⟨rfl, hB3⟩
      have hS3 := Lib.hid (SD8.below hB3 hS2.out)
      refine hK _ _ ⟨fun _ => hS3.out, ?_⟩; clear hK K
      apply rg_take 43 rfl (by kernel_rfl) (fun _ _ _ h => h) (hS3.out) rfl
      · (rintro W ⟨s0, s1, s2, s3, s4, s5, s6, s7⟩; go_simp; try rfl)
      · (go_simp; try rfl)
      apply rg_take 44 rfl (by kernel_rfl) (fun _ _ _ h => h) (hS3.out) rfl
      · (rintro W ⟨s0, s1, s2, s3, s4, s5, s6, s7⟩; go_simp; try rfl)
      · (go_simp; try rfl)
      refine rg_done (by kernel_rfl) ?_
      go_wp2
      go_roundw
      case rel => exact ⟨k + 1, by omega, by go_num, hB2'.out.trans (hB3.mono hB2'.out.size), Lib.hid (take_ext heq.out hlt hlt2 (cel_ext Hst.out Hbe.out Hoe.out))⟩
      case measure => simp [intOf]; omega
    · obtain rfl : k = d1.cells.length := by omega
      have hR := Lib.hid (show decide (d1 = d2) = true by
        simp only [decide_eq_true_eq]
        have h := heq.out
        rw [List.take_length] at h
        rw [List.take_of_length_le (by rw [Hlen.out]; exact Nat.le_refl _)] at h
        exact dis_ext h Hcc.out Hre.out Hle.out)
      go_wp2
      go_ret
      rw [hR.out]
      exact ⟨rfl, Hw1.out.1.trans (hB.mono Hw1.out.1.size)⟩
end Go.Proofs.Ytkdjacmabeeceaa
