/-
The contract of casematekeep.TwinDisk.
-/
import Derived.Test.YtkdjacmabeeceaaKDisk
namespace Go.Proofs.Ytkdjacmabeeceaa
open Go.RowKit
attribute [local go_sem ↓] Go.wp_at_zero Go.wp_at_succ

theorem OwR.own_ne {α β : Type} [Rp α] [Rp β] {w : World} {M1 M2 : Ms} {n1 n2 : Nat} {e1 e2 : TypeId} {v1 v2 : Value} {l1 : List α} {l2 : List β} (h1 : OwR w M1 n1 e1 v1 l1) (h2 : OwR w M2 n2 e2 v2 l2) (hne : e1 ≠ e2) :
    v2.ownBlock = none ∨ v2.ownBlock ≠ v1.ownBlock := by
  obtain ⟨xs, ho', _⟩ := h1
  obtain ⟨ys, ho'', _⟩ := h2
  rcases ho''.2 with ⟨rfl, _⟩ | ⟨g2, cap2, cur2, rfl, _, hh2, _⟩
  · exact .inl (by simp [Value.ownBlock])
  · refine .inr fun e => ?_
    rcases ho'.2 with ⟨rfl, _⟩ | ⟨g1, cap, cur, rfl, _, hh, _⟩
    · simp [Value.ownBlock] at e
    · simp [Value.ownBlock] at e
      subst e
      rw [hh] at hh2
      injection hh2 with hh2
      injection hh2 with _ ht
      exact hne ht

theorem TwR.newCells {w w1 : World} {M : Ms} {base b1 : Nat} {vc vk v4 : Value} {d : Dis} {l : List Cel} (h : TwR w M base b1 vc vk d) (hM : M b1) (hbase : base ≤ w.heap.size) (hg : w.grownBy w1 vc.ownBlock) (hat : v4.ownBlock = vc.ownBlock ∨ v4.ownBlock = some w.heap.size)
    (ho : OwR w1 (OM M vk) base 47 v4 l) : TwR (w1.setCell ⟨b1, 0, none⟩ v4) M base b1 v4 vk { d with cells := l } ∧ Below base w (w1.setCell ⟨b1, 0, none⟩ v4) := by
  have hne : some b1 ≠ vc.ownBlock := fun e => h.cells.ne_ h.blk (by decide) e.symm
  have hblk := h.blk.grown hg hne
  refine ⟨⟨h.ge, hblk.set_ 0 v4, ho.setCell (p := ⟨b1, 0, none⟩) (ho.ne_ hblk (by decide)) (.inl hM) v4, ?_⟩, ((Below.refl _ _).grown hg hbase (fun k e => h.cells.own_ge e)).setCell (p := ⟨b1, 0, none⟩) h.ge v4⟩
  have hcc := OwR.own_ne h.cells h.cache (by decide)
  have hkb := h.cache.ne_ h.blk (by decide)
  obtain ⟨xs0, ho0, he0⟩ := h.cache
  refine ⟨xs0, (ho0.kept hg hcc).kept (grownBy_set _ _ _ _) (.inr hkb), he0.mono fun cs x _ => Rp.mono fun b hb hm => ⟨?_, ?_⟩⟩
  · rintro ((h' | h') | h')
    · exact hm (.inl (.inl h'))
    · rcases hat with e | e
      · exact hm (.inl (.inr (e ▸ h')))
      · rw [e] at h'; injection h' with h'; omega
    · exact hm (.inr h')
  · have e1 : (w1.setCell ⟨b1, 0, none⟩ v4).heap[b]? = w1.heap[b]? := Below.heap_setCell _ _ _ _ (fun e => hm (.inl (.inl (by rw [e]; exact hM))))
    rw [e1]
    exact hg.block b hb (fun e => hm (.inl (.inr e.symm)))
theorem TwR.newCache {w w1 : World} {M : Ms} {base b1 : Nat} {vc vk v4 : Value} {d : Dis} {l : List Wri} (h : TwR w M base b1 vc vk d) (hM : M b1) (hbase : base ≤ w.heap.size) (hg : w.grownBy w1 vk.ownBlock) (hat : v4.ownBlock = vk.ownBlock ∨ v4.ownBlock = some w.heap.size)
    (ho : OwR w1 (OM M vc) base 78 v4 l) : TwR (w1.setCell ⟨b1, 1, none⟩ v4) M base b1 vc v4 { d with cache := l } ∧ Below base w (w1.setCell ⟨b1, 1, none⟩ v4) := by
  have hne : some b1 ≠ vk.ownBlock := fun e => h.cache.ne_ h.blk (by decide) e.symm
  have hblk := h.blk.grown hg hne
  refine ⟨⟨h.ge, hblk.set_ 1 v4, ?_, ho.setCell (p := ⟨b1, 1, none⟩) (ho.ne_ hblk (by decide)) (.inl hM) v4⟩, ((Below.refl _ _).grown hg hbase (fun k e => h.cache.own_ge e)).setCell (p := ⟨b1, 1, none⟩) h.ge v4⟩
  have hcc := OwR.own_ne h.cache h.cells (by decide)
  have hkb := h.cells.ne_ h.blk (by decide)
  obtain ⟨xs0, ho0, he0⟩ := h.cells
  refine ⟨xs0, (ho0.kept hg hcc).kept (grownBy_set _ _ _ _) (.inr hkb), he0.mono fun cs x _ => Rp.mono fun b hb hm => ⟨?_, ?_⟩⟩
  · rintro ((h' | h') | h')
    · exact hm (.inl (.inl h'))
    · rcases hat with e | e
      · exact hm (.inl (.inr (e ▸ h')))
      · rw [e] at h'; injection h' with h'; omega
    · exact hm (.inr h')
  · have e1 : (w1.setCell ⟨b1, 1, none⟩ v4).heap[b]? = w1.heap[b]? := Below.heap_setCell _ _ _ _ (fun e => hm (.inl (.inl (by rw [e]; exact hM))))
    rw [e1]
    exact hg.block b hb (fun e => hm (.inl (.inr e.symm)))

theorem OwR.st4 {α : Type} [Rp α] {w : World} {M : Ms} {base b : Nat} {e : TypeId} {v : Value} {l : List α} (h : OwR w M base e v l) (hp : v.ownBlock ≠ some b) (hM : M b) (v0 v1 v2 v3 : Value) : OwR (st4 w b v0 v1 v2 v3) M base e v l :=
  (((h.setCell (p := ⟨b, 0, none⟩) hp hM v0).setCell (p := ⟨b, 1, none⟩) hp hM v1).setCell (p := ⟨b, 2, none⟩) hp hM v2).setCell (p := ⟨b, 3, none⟩) hp hM v3
/-- What stands while the copy is built. -/
structure KT (w : World) (M : Ms) (c k : Value) (q l : Int) (wr : World) (vc vk : Value) (d : Dis) : Prop where
  tw : TwR wr ((M.and (w.heap.size + 1)).and (w.heap.size + 2)) w.heap.size (w.heap.size + 2) vc vk d
  b1 : Blk wr w.heap.size 27 #[c, k, .int .i64 q, .int .i64 l]
  b2 : Blk wr (w.heap.size + 1) 27 #[.slice none 0 0, .slice none 0 0, .int .i64 0, .int .i64 0]
  below : Below w.heap.size w wr
theorem KT.step {w : World} {M : Ms} {c k : Value} {q l : Int} {wr w2 : World} {vc vk : Value} {d : Dis} (h : KT w M c k q l wr vc vk d) (hB : Below wr.heap.size wr w2) : KT w M c k q l w2 vc vk d :=
  ⟨h.tw.below hB, h.b1.below hB, h.b2.below hB, h.below.trans (hB.mono h.below.size)⟩
theorem KT.new (w : World) (M : Ms) (c k : Value) (q l : Int) : KT w M c k q l (((w.alloc (.cells #[c, k, .int .i64 q, .int .i64 l] 27)).alloc (.cells #[.slice none 0 0, .slice none 0 0, .int .i64 0, .int .i64 0] 27)).alloc (.cells #[.slice none 0 0, .slice none 0 0, .int .i64 q, .int .i64 l] 27)) (.slice none 0 0) (.slice none 0 0) ⟨[], [], q, l⟩ := by
  have hB := (((Below.refl w.heap.size w).alloc (Nat.le_refl _) (.cells #[c, k, .int .i64 q, .int .i64 l] 27)).alloc (by simp) (.cells #[.slice none 0 0, .slice none 0 0, .int .i64 0, .int .i64 0] 27)).alloc (by simp; omega) (.cells #[.slice none 0 0, .slice none 0 0, .int .i64 q, .int .i64 l] 27)
  have h1 := ((Blk.new w 27 #[c, k, .int .i64 q, .int .i64 l]).alloc (.cells #[.slice none 0 0, .slice none 0 0, .int .i64 0, .int .i64 0] 27)).alloc (.cells #[.slice none 0 0, .slice none 0 0, .int .i64 q, .int .i64 l] 27)
  have h2 := (Blk.new (w.alloc (.cells #[c, k, .int .i64 q, .int .i64 l] 27)) 27 #[.slice none 0 0, .slice none 0 0, .int .i64 0, .int .i64 0]).alloc (.cells #[.slice none 0 0, .slice none 0 0, .int .i64 q, .int .i64 l] 27)
  have h3 := Blk.new ((w.alloc (.cells #[c, k, .int .i64 q, .int .i64 l] 27)).alloc (.cells #[.slice none 0 0, .slice none 0 0, .int .i64 0, .int .i64 0] 27)) 27 #[.slice none 0 0, .slice none 0 0, .int .i64 q, .int .i64 l]
  rw [show (w.alloc (.cells #[c, k, .int .i64 q, .int .i64 l] 27)).heap.size = w.heap.size + 1 by simp] at h2
  rw [show ((w.alloc (.cells #[c, k, .int .i64 q, .int .i64 l] 27)).alloc (.cells #[.slice none 0 0, .slice none 0 0, .int .i64 0, .int .i64 0] 27)).heap.size = w.heap.size + 2 by simp] at h3
  exact ⟨⟨by omega, h3, OwR.nil _ _ _ _, OwR.nil _ _ _ _⟩, h1, h2, hB⟩
theorem KT.keep {w : World} {M : Ms} {c k : Value} {q l : Int} {wr : World} {vc vk : Value} {d : Dis} (h : KT w M c k q l wr vc vk d) : Keep w M wr (TM ((M.and (w.heap.size + 1)).and (w.heap.size + 2)) vc vk) := fun b hb hm => ⟨by
  rintro ((((h' | h') | h') | h') | h')
  · exact hm h'
  · omega
  · omega
  · have := h.tw.cache.own_ge h'; omega
  · have := h.tw.cells.own_ge h'; omega, h.below.block b hb⟩
theorem KT.ok {w : World} {M : Ms} {c k : Value} {q l : Int} {wr : World} {vc vk : Value} {d : Dis} (h : KT w M c k q l wr vc vk d) (hM : MOk w M) : MOk wr (TM ((M.and (w.heap.size + 1)).and (w.heap.size + 2)) vc vk) :=
  h.tw.mok (MOk.boxed (w := wr) (w' := wr) (MOk.boxed hM h.below.size h.b2.lt) (Nat.le_refl _) h.tw.blk.lt)

theorem KT.cells {w : World} {M : Ms} {c k : Value} {q l : Int} {wr w1 : World} {vc vk v4 : Value} {d : Dis} {m : List Cel} (h : KT w M c k q l wr vc vk d) (hg : wr.grownBy w1 vc.ownBlock) (hat : v4.ownBlock = vc.ownBlock ∨ v4.ownBlock = some wr.heap.size)
    (ho : OwR w1 (OM ((M.and (w.heap.size + 1)).and (w.heap.size + 2)) vk) w.heap.size 47 v4 m) : KT w M c k q l (w1.setCell ⟨w.heap.size + 2, 0, none⟩ v4) v4 vk { d with cells := m } := by
  obtain ⟨t1, t2⟩ := h.tw.newCells (.inr rfl) h.below.size hg hat ho
  have n1 : some w.heap.size ≠ vc.ownBlock := fun e => h.tw.cells.ne_ h.b1 (by decide) e.symm
  have n2 : some (w.heap.size + 1) ≠ vc.ownBlock := fun e => h.tw.cells.ne_ h.b2 (by decide) e.symm
  exact ⟨t1, (h.b1.grown hg n1).far (p := ⟨w.heap.size + 2, 0, none⟩) (by simp) v4, (h.b2.grown hg n2).far (p := ⟨w.heap.size + 2, 0, none⟩) (by simp) v4, h.below.trans t2⟩
theorem KT.cache {w : World} {M : Ms} {c k : Value} {q l : Int} {wr w1 : World} {vc vk v4 : Value} {d : Dis} {m : List Wri} (h : KT w M c k q l wr vc vk d) (hg : wr.grownBy w1 vk.ownBlock) (hat : v4.ownBlock = vk.ownBlock ∨ v4.ownBlock = some wr.heap.size)
    (ho : OwR w1 (OM ((M.and (w.heap.size + 1)).and (w.heap.size + 2)) vc) w.heap.size 78 v4 m) : KT w M c k q l (w1.setCell ⟨w.heap.size + 2, 1, none⟩ v4) vc v4 { d with cache := m } := by
  obtain ⟨t1, t2⟩ := h.tw.newCache (.inr rfl) h.below.size hg hat ho
  have n1 : some w.heap.size ≠ vk.ownBlock := fun e => h.tw.cache.ne_ h.b1 (by decide) e.symm
  have n2 : some (w.heap.size + 1) ≠ vk.ownBlock := fun e => h.tw.cache.ne_ h.b2 (by decide) e.symm
  exact ⟨t1, (h.b1.grown hg n1).far (p := ⟨w.heap.size + 2, 1, none⟩) (by simp) v4, (h.b2.grown hg n2).far (p := ⟨w.heap.size + 2, 1, none⟩) (by simp) v4, h.below.trans t2⟩
theorem take_one {α : Type} {l : List α} {k : Nat} (h : k < l.length) : l.take (k + 1) = l.take k ++ [l[k]] := by rw [List.take_add_one, List.getElem?_eq_getElem h]; rfl

set_option maxHeartbeats 4000000 in
theorem ktwin_any (v : Value) (d : Dis) (w : World) (M : Ms) (h : Rv w M v d) (hM : MOk w M) (hs : smD d) :
    Calls Try.prog 19 #[v] w fun e w' => ∃ r, e = .returned r ∧ Rv w' M r d ∧ Below w.heap.size w w' := by
  obtain ⟨c, k, rfl, hc, hk⟩ := rv_dis.1 h
  obtain ⟨ac, cc, rfl⟩ := hc.form
  obtain ⟨ak, ck, rfl⟩ := hk.form
  have Hc := Lib.hid hc
  have Hk := Lib.hid hk
  have Hs := Lib.hid hs
  have hl : d.cells.length ≤ 1000000000 := hs.1
  have hkl : d.cache.length ≤ 1000000000 := hs.2.1
  clear h hc hk hs
  go_enter Try.func19, Try.ntmps19
  go_wp2
  have J := Lib.hid (KT.new w M (.slice ac d.cells.length cc) (.slice ak d.cache.length ck) d.reqs d.left)
  go_loopw [4] (fun i wr => ∃ k : Nat, k ≤ d.cells.length ∧ i = .int .i64 k ∧ Hid (∃ vc, KT w M (.slice ac d.cells.length cc) (.slice ak d.cache.length ck) d.reqs d.left wr vc (.slice none 0 0) ⟨d.cells.take k, [], d.reqs, d.left⟩)) (fun i _ => d.cells.length - (intOf i).toNat)
  case atStart => exact ⟨0, Nat.zero_le _, rfl, Lib.hid ⟨_, J.out⟩⟩
  case round =>
    obtain ⟨k, hk, rfl, HS⟩ := hrel
    obtain ⟨vc, hT⟩ := HS.out
    have c1 := hT.b1.cell
    have HT := Lib.hid hT
    clear HS hT
    by_cases hlt : k < d.cells.length
    · obtain ⟨L, hL⟩ : ∃ L, L = d.cells.take k := ⟨_, rfl⟩
      rw [← hL] at HT
      have HL := Lib.hid hL
      clear hL
      obtain ⟨b1, o1, vb1, vo1, rfl, hm1, p1, p2, p3, z1, u1⟩ := cel_at (Hc.out.mono HT.out.keep) hlt
      have hm1 := Lib.hid hm1
      obtain ⟨ab1, cb1, rfl⟩ := z1.form
      obtain ⟨ao1, co1, rfl⟩ := u1.form
      obtain ⟨A4, n4, rfl⟩ := HT.out.tw.cells.form
      have T1 := Lib.hid (HT.out.step (below_drew wr))
      have Z1 := Lib.hid (z1.mono (Keep.below (below_drew wr)))
      have U1 := Lib.hid (u1.mono (Keep.below (below_drew wr)))
      have hS := Lib.hid (And.intro T1.out.tw.blk.cell (And.intro T1.out.b1.cell (show wr.drew.cell? ⟨b1, o1 + k * 3, none⟩ = some (.int .i64 d.cells[k].state) ∧ wr.drew.cell? ⟨b1, o1 + k * 3 + 1, none⟩ = some (.slice ab1 d.cells[k].bytes.length cb1) ∧ wr.drew.cell? ⟨b1, o1 + k * 3 + 2, none⟩ = some (.slice ao1 d.cells[k].old.length co1) from ⟨p1, p2, p3⟩)))
      clear p1 p2 p3 z1 u1
      go_wp2_with fail
      clear c1
      refine rg_enter [0, 1, 2, 3, 4, 5, 6, 7, 8, 9, 10, 11, 12, 13, 15, 16, 17, 18, 19, 20] (fun w' => (∀ i, w'.cell? ⟨w.heap.size + 2, i, none⟩ = #[Value.slice A4 L.length n4, .slice none 0 0, .int .i64 d.reqs, .int .i64 d.left][i]?) ∧ (∀ i, w'.cell? ⟨w.heap.size, i, none⟩ = #[Value.slice (some ⟨b1, o1, none⟩) d.cells.length cc, .slice ak d.cache.length ck, .int .i64 d.reqs, .int .i64 d.left][i]?) ∧ w'.cell? ⟨b1, o1 + k * 3, none⟩ = some (.int .i64 d.cells[k].state) ∧ w'.cell? ⟨b1, o1 + k * 3 + 1, none⟩ = some (.slice ab1 d.cells[k].bytes.length cb1) ∧ w'.cell? ⟨b1, o1 + k * 3 + 2, none⟩ = some (.slice ao1 d.cells[k].old.length co1)) (by kernel_rfl) ?_
      apply rg_take 0 rfl (by kernel_rfl) (fun _ _ _ h => h) (hS.out) rfl
      · (rintro W ⟨s0, s1, s2, s3, s4⟩; go_simp; try rfl)
      · (go_simp; try rfl)
      apply rg_take 1 rfl (by kernel_rfl) (fun _ _ _ h => h) (hS.out) rfl
      · (rintro W ⟨s0, s1, s2, s3, s4⟩; go_simp; try rfl)
      · (go_simp; try rfl)
      apply rg_take 2 rfl (by kernel_rfl) (fun _ _ _ h => h) (hS.out) rfl
      · (rintro W ⟨s0, s1, s2, s3, s4⟩; go_simp; try rfl)
      · (go_simp; try rfl)
      apply rg_take 3 rfl (by kernel_rfl) (fun _ _ _ h => h) (hS.out) rfl
      · (rintro W ⟨s0, s1, s2, s3, s4⟩; go_simp; try rfl)
      · (go_simp; try rfl)
      apply rg_take 4 rfl (by kernel_rfl) (fun _ _ _ h => h) (hS.out) rfl
      · (rintro W ⟨s0, s1, s2, s3, s4⟩; go_simp; try rfl)
      · (go_simp; try rfl)
      apply rg_take 5 rfl (by kernel_rfl) (fun _ _ _ h => h) (hS.out) rfl
      · (rintro W ⟨s0, s1, s2, s3, s4⟩; go_simp; try rfl)
      · (go_simp; try rfl)
      apply rg_take 6 rfl (by kernel_rfl) (fun _ _ _ h => h) (hS.out) rfl
      · (rintro W ⟨s0, s1, s2, s3, s4⟩; go_simp; try rfl)
      · (go_simp; try rfl)
      apply rg_take 7 rfl (by kernel_rfl) (fun _ _ _ h => h) (hS.out) rfl
      · (rintro W ⟨s0, s1, s2, s3, s4⟩; go_simp; try rfl)
      · (go_simp; try rfl)
      apply rg_take 8 rfl (by kernel_rfl) (fun _ _ _ h => h) (hS.out) rfl
      · (rintro W ⟨s0, s1, s2, s3, s4⟩; go_simp; try rfl)
      · (go_simp; try rfl)
      apply rg_take 9 rfl (by kernel_rfl) (fun _ _ _ h => h) (hS.out) rfl
      · (rintro W ⟨s0, s1, s2, s3, s4⟩; go_simp; try rfl)
      · (go_simp; try rfl)
      apply rg_take 10 rfl (by kernel_rfl) (fun _ _ _ h => h) (hS.out) rfl
      · (rintro W ⟨s0, s1, s2, s3, s4⟩; go_simp; try rfl)
      · (go_simp; try rfl)
      apply rg_take 11 rfl (by kernel_rfl) (fun _ _ _ h => h) (hS.out) rfl
      · (rintro W ⟨s0, s1, s2, s3, s4⟩; go_simp; try rfl)
      · (go_simp; try rfl)
      apply rg_take 12 rfl (by kernel_rfl) (fun _ _ _ h => h) (hS.out) rfl
      · (rintro W ⟨s0, s1, s2, s3, s4⟩; go_simp; try rfl)
      · (go_simp; try rfl)
      apply rg_take 13 rfl (by kernel_rfl) (fun _ _ _ h => h) (hS.out) rfl
      · (rintro W ⟨s0, s1, s2, s3, s4⟩; go_simp; try rfl)
      · (go_simp; try rfl)
      apply rg_take 15 rfl (by kernel_rfl) (fun _ _ _ h => h) (hS.out) rfl
      · (rintro W ⟨s0, s1, s2, s3, s4⟩; go_simp; try rfl)
      · (go_simp; try rfl)
      apply rg_take 16 rfl (by kernel_rfl) (fun _ _ _ h => h) (hS.out) rfl
      · (rintro W ⟨s0, s1, s2, s3, s4⟩; go_simp; try rfl)
      · (go_simp; try rfl)
      apply rg_take 17 rfl (by kernel_rfl) (fun _ _ _ h => h) (hS.out) rfl
      · (rintro W ⟨s0, s1, s2, s3, s4⟩; go_simp; try rfl)
      · (go_simp; try rfl)
      apply rg_take 18 rfl (by kernel_rfl) (fun _ _ _ h => h) (hS.out) rfl
      · (rintro W ⟨s0, s1, s2, s3, s4⟩; go_simp; try rfl)
      · (go_simp; try rfl)
      apply rg_take 19 rfl (by kernel_rfl) (fun _ _ _ h => h) (hS.out) rfl
      · (rintro W ⟨s0, s1, s2, s3, s4⟩; go_simp; try rfl)
      · (go_simp; try rfl)
      apply rg_take 20 rfl (by kernel_rfl) (fun _ _ _ h => h) (hS.out) rfl
      · (rintro W ⟨s0, s1, s2, s3, s4⟩; go_simp; try rfl)
      · (go_simp; try rfl)
      have hbk := Lib.hid (Hs.out.2.2.1 d.cells[k] (List.getElem_mem hlt))
      have hok := Lib.hid (T1.out.ok hM)
      refine rg_only 14 (by kernel_rfl) rfl (fun K hK => ?_)
      go_simp
      refine (twin_any _ d.cells[k].bytes _ _ (rv_list.2 Z1.out) hok.out hbk.out.1).mono ?_
      rintro e w2 ⟨ra, rfl, hr2, hB2⟩
      have T2 := Lib.hid (T1.out.step hB2)
      have V2 := Lib.hid (rv_list.1 hr2)
      obtain ⟨ra1, ra2, rfl⟩ := V2.out.form
      have U2 := Lib.hid (U1.out.mono (Keep.below hB2))
      have hS2 := Lib.hid (And.intro T2.out.tw.blk.cell (And.intro T2.out.b1.cell (And.intro (below_cell hB2 hS.out.2.2.1) (And.intro (below_cell hB2 hS.out.2.2.2.1) (below_cell hB2 hS.out.2.2.2.2)))))
      have hok2 := Lib.hid (hok.out.below hB2.size)
      clear hr2 hB2
      refine hK _ _ ⟨fun _ => hS2.out, ?_⟩; clear hK K
      refine rg_only 21 (by kernel_rfl) rfl (fun K hK => ?_)
      go_simp
      refine (twin_any _ d.cells[k].old _ _ (rv_list.2 U2.out) hok2.out hbk.out.2).mono ?_
      rintro e w3 ⟨rb, rfl, hr3, hB3⟩
      have T3 := Lib.hid (T2.out.step hB3)
      have V3 := Lib.hid (rv_list.1 hr3)
      obtain ⟨rb1, rb2, rfl⟩ := V3.out.form
      have V23 := Lib.hid (V2.out.mono (Keep.below hB3))
      have hS3 := Lib.hid (And.intro T3.out.tw.blk.cell (And.intro T3.out.b1.cell (And.intro (below_cell hB3 hS2.out.2.2.1) (And.intro (below_cell hB3 hS2.out.2.2.2.1) (below_cell hB3 hS2.out.2.2.2.2)))))
      have hok3 := Lib.hid (hok2.out.below hB3.size)
      clear hr3 hB3
      refine hK _ _ ⟨fun _ => hS3.out, ?_⟩; clear hK K
      refine rg_only 22 (by kernel_rfl) rfl (fun K hK => ?_)
      go_simp
      refine hK _ _ ⟨fun _ => hS3.out, ?_⟩; clear hK K
      refine rg_only 23 (by kernel_rfl) rfl (fun K hK => ?_)
      go_simp
      have hB4 := (Below.refl w3.heap.size w3).alloc (Nat.le_refl _) (.cells #[Value.int .i64 d.cells[k].state, .slice ra1 d.cells[k].bytes.length ra2, .slice rb1 d.cells[k].old.length rb2] 47)
      have T4 := Lib.hid (T3.out.step hB4)
      have W1 := Lib.hid (V23.out.mono (Keep.below hB4))
      have W2 := Lib.hid (V3.out.mono (Keep.below hB4))
      have hblk4 := Blk.new w3 47 #[Value.int .i64 d.cells[k].state, .slice ra1 d.cells[k].bytes.length ra2, .slice rb1 d.cells[k].old.length rb2]
      have hS4 := Lib.hid (And.intro T4.out.tw.blk.cell (And.intro T4.out.b1.cell (And.intro (below_cell hB4 hS3.out.2.2.1) (And.intro (below_cell hB4 hS3.out.2.2.2.1) (below_cell hB4 hS3.out.2.2.2.2)))))
      clear hB4
      refine hK _ _ ⟨fun _ => hS4.out, ?_⟩; clear hK K
      refine rg_only 24 (by kernel_rfl) rfl (fun K hK => ?_)
      have hlk : L.length + 1 ≤ 1000000000 := by rw [HL.out, List.length_take]; omega
      refine step_append_R (α := Cel) (base := w.heap.size) (l := L) (m := [⟨d.cells[k].state, d.cells[k].bytes, d.cells[k].old⟩]) rfl (by rfl) ty24 (by rfl) T4.out.tw.cells (by rfl) ?_ (by simpa using hlk) T4.out.below.size ?_
      · refine SlR.one hblk4 ⟨_, _, rfl, W1.out, W2.out⟩ (fun h' => ?_)
        have := hok3.out _ h'
        omega
      intro v4 w4 ho4 hg4 hat4
      have T5 := Lib.hid (T4.out.cells hg4 hat4 ho4)
      rw [show L ++ [(⟨d.cells[k].state, d.cells[k].bytes, d.cells[k].old⟩ : Cel)] = d.cells.take (k + 1) by rw [take_one hlt, HL.out]] at T5
      have hbl4 := T4.out.tw.blk.grown hg4 (fun e => T4.out.tw.cells.ne_ T4.out.tw.blk (by decide) e.symm)
      obtain ⟨A5, n5, rfl⟩ := ho4.form
      obtain ⟨c5, f5, l5⟩ := hbl4.all
      have x1 := (T4.out.b1.grown hg4 (fun e => T4.out.tw.cells.ne_ T4.out.b1 (by decide) e.symm)).cell
      have hkp4 : Keep _ (TM ((M.and (w.heap.size + 1)).and (w.heap.size + 2)) (.slice A4 L.length n4) (.slice none 0 0)) w4 (TM ((M.and (w.heap.size + 1)).and (w.heap.size + 2)) (.slice A4 L.length n4) (.slice none 0 0)) := fun b hb hm' => ⟨hm', hg4.block b hb (fun e => hm' (.inr e.symm))⟩
      have hS5 := Lib.hid (And.intro c5 (And.intro x1 (And.intro (hkp4.cell hm1.out hS4.out.2.2.1) (And.intro (hkp4.cell hm1.out hS4.out.2.2.2.1) (hkp4.cell hm1.out hS4.out.2.2.2.2)))))
      clear hg4 hat4 ho4 hbl4 hblk4 hkp4 x1
      refine hK _ _ ⟨fun _ => hS5.out, ?_⟩; clear hK K
      apply rg_pure 25 rfl (by kernel_rfl) (fun _ _ _ h => h) rfl
      · (intro W; go_simp; try rfl)
      · (go_simp; try rfl)
      refine rg_free 26 (by kernel_rfl) (by kernel_rfl) rfl (fun K hK => ?_)
      go_simp
      refine hK _ _ ?_; clear hK K
      refine rg_done (by kernel_rfl) ?_
      go_wp2
      go_roundw
      case rel =>
        have h5 := T5.out
        simp only [List.length_append, List.length_cons, List.length_nil, Nat.zero_add] at h5
        exact ⟨k + 1, by omega, by go_num, Lib.hid ⟨_, h5⟩⟩
      case measure => simp [intOf]; omega
    · obtain rfl : k = d.cells.length := by omega
      rw [List.take_length] at HT
      go_wp2
      clear c1
      go_loopw [5] (fun i wr => ∃ k : Nat, k ≤ d.cache.length ∧ i = .int .i64 k ∧ Hid (∃ vk, KT w M (.slice ac d.cells.length cc) (.slice ak d.cache.length ck) d.reqs d.left wr vc vk ⟨d.cells, d.cache.take k, d.reqs, d.left⟩)) (fun i _ => d.cache.length - (intOf i).toNat)
      case atStart => exact ⟨0, Nat.zero_le _, rfl, Lib.hid ⟨_, HT.out⟩⟩
      case round =>
        clear HT J
        obtain ⟨k, hk, rfl, HS⟩ := hrel
        obtain ⟨vk, hT⟩ := HS.out
        have c1 := hT.b1.cell
        have HT := Lib.hid hT
        clear HS hT
        by_cases hlt : k < d.cache.length
        · obtain ⟨L, hL⟩ : ∃ L, L = d.cache.take k := ⟨_, rfl⟩
          rw [← hL] at HT
          have HL := Lib.hid hL
          clear hL
          obtain ⟨b1, o1, vb1, rfl, hm1, p1, p2, z1⟩ := wri_at (Hk.out.mono HT.out.keep) hlt
          have hm1 := Lib.hid hm1
          obtain ⟨ab1, cb1, rfl⟩ := z1.form
          obtain ⟨A4, n4, rfl⟩ := HT.out.tw.cache.form
          have T1 := Lib.hid (HT.out.step (below_drew wr))
          have Z1 := Lib.hid (z1.mono (Keep.below (below_drew wr)))
          have hS := Lib.hid (And.intro T1.out.tw.blk.cell (And.intro T1.out.b1.cell (show wr.drew.cell? ⟨b1, o1 + k * 2, none⟩ = some (.int .i64 d.cache[k].addr) ∧ wr.drew.cell? ⟨b1, o1 + k * 2 + 1, none⟩ = some (.slice ab1 d.cache[k].bytes.length cb1) from ⟨p1, p2⟩)))
          clear p1 p2 z1
          go_wp2_with fail
          clear c1
          refine rg_enter [0, 1, 2, 3, 4, 5, 6, 7, 8, 9, 10, 11, 12, 13] (fun w' => (∀ i, w'.cell? ⟨w.heap.size + 2, i, none⟩ = #[vc, .slice A4 L.length n4, .int .i64 d.reqs, .int .i64 d.left][i]?) ∧ (∀ i, w'.cell? ⟨w.heap.size, i, none⟩ = #[Value.slice ac d.cells.length cc, .slice (some ⟨b1, o1, none⟩) d.cache.length ck, .int .i64 d.reqs, .int .i64 d.left][i]?) ∧ w'.cell? ⟨b1, o1 + k * 2, none⟩ = some (.int .i64 d.cache[k].addr) ∧ w'.cell? ⟨b1, o1 + k * 2 + 1, none⟩ = some (.slice ab1 d.cache[k].bytes.length cb1)) (by kernel_rfl) ?_
          apply rg_take 0 rfl (by kernel_rfl) (fun _ _ _ h => h) (hS.out) rfl
          · (rintro W ⟨s0, s1, s2, s3⟩; go_simp; try rfl)
          · (go_simp; try rfl)
          apply rg_take 1 rfl (by kernel_rfl) (fun _ _ _ h => h) (hS.out) rfl
          · (rintro W ⟨s0, s1, s2, s3⟩; go_simp; try rfl)
          · (go_simp; try rfl)
          apply rg_take 2 rfl (by kernel_rfl) (fun _ _ _ h => h) (hS.out) rfl
          · (rintro W ⟨s0, s1, s2, s3⟩; go_simp; try rfl)
          · (go_simp; try rfl)
          apply rg_take 3 rfl (by kernel_rfl) (fun _ _ _ h => h) (hS.out) rfl
          · (rintro W ⟨s0, s1, s2, s3⟩; go_simp; try rfl)
          · (go_simp; try rfl)
          apply rg_take 4 rfl (by kernel_rfl) (fun _ _ _ h => h) (hS.out) rfl
          · (rintro W ⟨s0, s1, s2, s3⟩; go_simp; try rfl)
          · (go_simp; try rfl)
          apply rg_take 5 rfl (by kernel_rfl) (fun _ _ _ h => h) (hS.out) rfl
          · (rintro W ⟨s0, s1, s2, s3⟩; go_simp; try rfl)
          · (go_simp; try rfl)
          apply rg_take 6 rfl (by kernel_rfl) (fun _ _ _ h => h) (hS.out) rfl
          · (rintro W ⟨s0, s1, s2, s3⟩; go_simp; try rfl)
          · (go_simp; try rfl)
          apply rg_take 7 rfl (by kernel_rfl) (fun _ _ _ h => h) (hS.out) rfl
          · (rintro W ⟨s0, s1, s2, s3⟩; go_simp; try rfl)
          · (go_simp; try rfl)
          apply rg_take 8 rfl (by kernel_rfl) (fun _ _ _ h => h) (hS.out) rfl
          · (rintro W ⟨s0, s1, s2, s3⟩; go_simp; try rfl)
          · (go_simp; try rfl)
          apply rg_take 9 rfl (by kernel_rfl) (fun _ _ _ h => h) (hS.out) rfl
          · (rintro W ⟨s0, s1, s2, s3⟩; go_simp; try rfl)
          · (go_simp; try rfl)
          apply rg_take 10 rfl (by kernel_rfl) (fun _ _ _ h => h) (hS.out) rfl
          · (rintro W ⟨s0, s1, s2, s3⟩; go_simp; try rfl)
          · (go_simp; try rfl)
          apply rg_take 11 rfl (by kernel_rfl) (fun _ _ _ h => h) (hS.out) rfl
          · (rintro W ⟨s0, s1, s2, s3⟩; go_simp; try rfl)
          · (go_simp; try rfl)
          apply rg_take 12 rfl (by kernel_rfl) (fun _ _ _ h => h) (hS.out) rfl
          · (rintro W ⟨s0, s1, s2, s3⟩; go_simp; try rfl)
          · (go_simp; try rfl)
          apply rg_take 13 rfl (by kernel_rfl) (fun _ _ _ h => h) (hS.out) rfl
          · (rintro W ⟨s0, s1, s2, s3⟩; go_simp; try rfl)
          · (go_simp; try rfl)
          have hbk := Lib.hid (Hs.out.2.2.2 d.cache[k] (List.getElem_mem hlt))
          have hok := Lib.hid (T1.out.ok hM)
          refine rg_only 14 (by kernel_rfl) rfl (fun K hK => ?_)
          go_simp
          refine (twin_any _ d.cache[k].bytes _ _ (rv_list.2 Z1.out) hok.out hbk.out).mono ?_
          rintro e w3 ⟨ra, rfl, hr2, hB2⟩
          have T3 := Lib.hid (T1.out.step hB2)
          have V3 := Lib.hid (rv_list.1 hr2)
          obtain ⟨ra1, ra2, rfl⟩ := V3.out.form
          have hS3 := Lib.hid (And.intro T3.out.tw.blk.cell (And.intro T3.out.b1.cell (And.intro (below_cell hB2 hS.out.2.2.1) (below_cell hB2 hS.out.2.2.2))))
          have hok3 := Lib.hid (hok.out.below hB2.size)
          clear hr2 hB2
          refine hK _ _ ⟨fun _ => hS3.out, ?_⟩; clear hK K
          refine rg_only 15 (by kernel_rfl) rfl (fun K hK => ?_)
          go_simp
          refine hK _ _ ⟨fun _ => hS3.out, ?_⟩; clear hK K
          refine rg_only 16 (by kernel_rfl) rfl (fun K hK => ?_)
          go_simp
          have hB4 := (Below.refl w3.heap.size w3).alloc (Nat.le_refl _) (.cells #[Value.int .i64 d.cache[k].addr, .slice ra1 d.cache[k].bytes.length ra2] 78)
          have T4 := Lib.hid (T3.out.step hB4)
          have W1 := Lib.hid (V3.out.mono (Keep.below hB4))
          have hblk4 := Blk.new w3 78 #[Value.int .i64 d.cache[k].addr, .slice ra1 d.cache[k].bytes.length ra2]
          have hS4 := Lib.hid (And.intro T4.out.tw.blk.cell (And.intro T4.out.b1.cell (And.intro (below_cell hB4 hS3.out.2.2.1) (below_cell hB4 hS3.out.2.2.2))))
          clear hB4
          refine hK _ _ ⟨fun _ => hS4.out, ?_⟩; clear hK K
          refine rg_only 17 (by kernel_rfl) rfl (fun K hK => ?_)
          have hlk : L.length + 1 ≤ 1000000000 := by rw [HL.out, List.length_take]; omega
          have hsw : ∀ b, TM ((M.and (w.heap.size + 1)).and (w.heap.size + 2)) vc (.slice A4 L.length n4) b → OM ((M.and (w.heap.size + 1)).and (w.heap.size + 2)) vc b ∨ (Value.slice A4 L.length n4).ownBlock = some b := by
            rintro b ((h | h) | h)
            · exact .inl (.inl h)
            · exact .inr h
            · exact .inl (.inr h)
          have hsw' : ∀ b, OM ((M.and (w.heap.size + 1)).and (w.heap.size + 2)) vc b ∨ (Value.slice A4 L.length n4).ownBlock = some b → TM ((M.and (w.heap.size + 1)).and (w.heap.size + 2)) vc (.slice A4 L.length n4) b := by
            rintro b ((h | h) | h)
            · exact .inl (.inl h)
            · exact .inr h
            · exact .inl (.inr h)
          refine step_append_R (α := Wri) (base := w.heap.size) (l := L) (m := [⟨d.cache[k].addr, d.cache[k].bytes⟩]) rfl (by rfl) ty25 (by rfl) T4.out.tw.cache (by rfl) ?_ (by simpa using hlk) T4.out.below.size ?_
          · refine SlR.one hblk4 ⟨_, rfl, W1.out.mono (Keep.less hsw')⟩ (fun h' => ?_)
            have := hok3.out _ (hsw' _ h')
            omega
          intro v4 w4 ho4 hg4 hat4
          have T5 := Lib.hid (T4.out.cache hg4 hat4 ho4)
          rw [show L ++ [(⟨d.cache[k].addr, d.cache[k].bytes⟩ : Wri)] = d.cache.take (k + 1) by rw [take_one hlt, HL.out]] at T5
          have hbl4 := T4.out.tw.blk.grown hg4 (fun e => T4.out.tw.cache.ne_ T4.out.tw.blk (by decide) e.symm)
          obtain ⟨A5, n5, rfl⟩ := ho4.form
          obtain ⟨c5, f5, l5⟩ := hbl4.all
          have x1 := (T4.out.b1.grown hg4 (fun e => T4.out.tw.cache.ne_ T4.out.b1 (by decide) e.symm)).cell
          have hkp4 : Keep _ (TM ((M.and (w.heap.size + 1)).and (w.heap.size + 2)) vc (.slice A4 L.length n4)) w4 (TM ((M.and (w.heap.size + 1)).and (w.heap.size + 2)) vc (.slice A4 L.length n4)) := fun b hb hm' => ⟨hm', hg4.block b hb (fun e => hm' (hsw' b (.inr e.symm)))⟩
          have hS5 := Lib.hid (And.intro c5 (And.intro x1 (And.intro (hkp4.cell hm1.out hS4.out.2.2.1) (hkp4.cell hm1.out hS4.out.2.2.2))))
          clear hg4 hat4 ho4 hbl4 hblk4 hkp4 x1 hsw hsw'
          refine hK _ _ ⟨fun _ => hS5.out, ?_⟩; clear hK K
          apply rg_pure 18 rfl (by kernel_rfl) (fun _ _ _ h => h) rfl
          · (intro W; go_simp; try rfl)
          · (go_simp; try rfl)
          refine rg_free 19 (by kernel_rfl) (by kernel_rfl) rfl (fun K hK => ?_)
          go_simp
          refine hK _ _ ?_; clear hK K
          refine rg_done (by kernel_rfl) ?_
          go_wp2
          go_roundw
          case rel =>
            have h5 := T5.out
            simp only [List.length_append, List.length_cons, List.length_nil, Nat.zero_add] at h5
            exact ⟨k + 1, by omega, by go_num, Lib.hid ⟨_, h5⟩⟩
          case measure => simp [intOf]; omega
        · obtain rfl : k = d.cache.length := by omega
          rw [List.take_length] at HT
          obtain ⟨Ac, nc, rfl⟩ := HT.out.tw.cells.form
          obtain ⟨Ak, nk, rfl⟩ := HT.out.tw.cache.form
          have c3 := HT.out.tw.blk.cell
          obtain ⟨c6, f6, l6⟩ := HT.out.b2.all
          go_wp2
          have x1 := st4_blk HT.out.b2 (.slice Ac d.cells.length nc) (.slice Ak d.cache.length nk) (.int .i64 d.reqs) (.int .i64 d.left)
          have x3 := st4_below HT.out.below (Nat.le_succ _) (.slice Ac d.cells.length nc) (.slice Ak d.cache.length nk) (.int .i64 d.reqs) (.int .i64 d.left)
          have hx := x1.cell
          unfold st4 at hx
          refine bodyPost_ret (v := .agg #[.slice Ac d.cells.length nc, .slice Ak d.cache.length nk, .int .i64 d.reqs, .int .i64 d.left]) (by simp [results, Try.results19, go_sem, hx]) rfl ?_
          have q1 := HT.out.tw.cells.st4 (b := w.heap.size + 1) (HT.out.tw.cells.ne_ HT.out.b2 (by decide)) (.inl (.inl (.inr rfl))) (.slice Ac d.cells.length nc) (.slice Ak d.cache.length nk) (.int .i64 d.reqs) (.int .i64 d.left)
          have q2 := HT.out.tw.cache.st4 (b := w.heap.size + 1) (HT.out.tw.cache.ne_ HT.out.b2 (by decide)) (.inl (.inl (.inr rfl))) (.slice Ac d.cells.length nc) (.slice Ak d.cache.length nk) (.int .i64 d.reqs) (.int .i64 d.left)
          exact ⟨_, rfl, rv_dis.2 ⟨_, _, rfl, (q1.less (fun b h => .inl (.inl (.inl h)))).sl hM.new, (q2.less (fun b h => .inl (.inl (.inl h)))).sl hM.new⟩, x3⟩
end Go.Proofs.Ytkdjacmabeeceaa
