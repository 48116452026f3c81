/-
Several texts in one.
-/
import Derived.Test.YtjcboeldmgmfcaaComP2
import Derived.Deep.RegionLaw
import Derived.Shelf.RegionOpenPlain

/-
slices.Insert of one element, at another type.
-/
section
namespace Go.Proofs.Ytjcboeldmgmfcaa
open Go.RowKit
attribute [local go_sem ↓] Go.wp_at_zero Go.wp_at_succ

set_option maxHeartbeats 4000000 in
theorem insH_end (v : Value) (n : Nat) (xs ys : List Value) (vb base : Nat) (w : World) (ho : w.ownsRow base 36 3 v n xs) (vc : Nat) (vcur : Array Value) (hb : w.heap[vb]? = some (.cells vcur 36 (0, 0))) (hbt : vcur.toList.take 3 = ys) (hy : ys.length = 3)
    (h1y : ∀ u ∈ ys, u.oneCell' = true) (hn : n ≤ 1000000) (hbase : base ≤ w.heap.size) :
    Calls Try.prog 24 #[v, .int .i64 n, .slice (some ⟨vb, 0, none⟩) 1 vc] w fun e w' => ∃ v', e = .returned v' ∧ w'.ownsRow base 36 3 v' (n + 1) (xs ++ ys) ∧ w.grownBy w' v.ownBlock ∧
      (v'.ownBlock = v.ownBlock ∨ v'.ownBlock = some w.heap.size) := by
  obtain ⟨i0, hi0, hz0, hz1, hz2⟩ := info_parts (show (Try.prog.info? 36).map (fun i => (i.zero, i.size, i.bytes)) = some (some (.agg #[.int .i64 0, .slice none 0 0, .slice none 0 0]), 3, 56) by kernel_rfl)
  obtain ⟨v', w2, hrun, h2, h3, h4, h5⟩ := run_append_own_at (P := Try.prog) w base 22 22 36 i0 _ 3 56 Try.underlying22 hi0 hz0 hz1 hz2 rfl (by omega) v n xs ho ⟨vb, 0, none⟩ 1 vc ys (by omega)
    (fun j u hu => by rw [Addr.add_lit, Nat.zero_add, cell_of_row w vb _ vcur 36 (0, 0) hb]; exact take_cell hbt hu) h1y (by unfold maxLen; omega) (by omega) hbase
  have H2 := Lib.hid (And.intro h2 (And.intro h3 h5))
  rcases ho.2 with ⟨rfl, rfl⟩ | ⟨g, c, cur, rfl, hbg, hg, hnc, hcm, hcs, ht⟩
  · clear h2 h3 h4 h5 hz0 hz1 hz2 hi0 ho hb hbt hy h1y hbase
    go_enter Try.func24, Try.ntmps24
    go_wp2_with (at_builtin; refine wpList_append_run' rfl _ _ _ _ rfl (by rfl) (by rfl) hrun ?_)
    go_ret
    exact ⟨_, rfl, H2.out⟩
  · unfold maxLen at hcm
    have hg' := Lib.hid hg
    have hn0 : (0 : Int) ≤ n := by omega
    clear h2 h3 h4 h5 hz0 hz1 hz2 hi0 ho hb hbt hy h1y hbase hg hcs ht
    by_cases hcn : c = n
    · subst hcn
      go_enter Try.func24, Try.ntmps24
      go_wp2_with (at_builtin; refine wpList_append_run' rfl _ _ _ _ rfl (by rfl) (by rfl) hrun ?_)
      go_ret
      exact ⟨_, rfl, H2.out⟩
    · go_enter Try.func24, Try.ntmps24
      go_wp2_with (at_builtin; refine wpList_append_run' rfl _ _ _ _ rfl (by rfl) (by rfl) hrun ?_)
      go_ret
      exact ⟨_, rfl, H2.out⟩

set_option maxHeartbeats 4000000 in
theorem insH_shift (g c n i : Nat) (xs ys : List Value) (vb base : Nat) (w : World) (ho : w.ownsRow base 36 3 (.slice (some ⟨g, 0, none⟩) n c) n xs) (vc : Nat) (vcur : Array Value) (hb : w.heap[vb]? = some (.cells vcur 36 (0, 0))) (hbt : vcur.toList.take 3 = ys) (hy : ys.length = 3)
    (h1x : ∀ u ∈ xs, u.oneCell' = true) (h1y : ∀ u ∈ ys, u.oneCell' = true) (hne : vb ≠ g) (hi : i < n) (hroom : n + 1 ≤ c) (hn : n ≤ 1000000) :
    Calls Try.prog 24 #[.slice (some ⟨g, 0, none⟩) n c, .int .i64 i, .slice (some ⟨vb, 0, none⟩) 1 vc] w fun e w' => ∃ v', e = .returned v' ∧ w'.ownsRow base 36 3 v' (n + 1) (xs.take (i * 3) ++ ys ++ xs.drop (i * 3)) ∧ w.grownBy w' (some g) ∧
      v'.ownBlock = some g := by
  have hsz : (Try.prog.info? 36).map (·.size) = some 3 := by kernel_rfl
  rcases ho.2 with ⟨e, _⟩ | ⟨g', c', cur, e, hbg, hg, hnc, hcm, hcs, ht⟩
  · cases e
  cases e
  have hxl := ho.1
  have hov : ∀ lb cb, (callFunc 42 #[.slice (some ⟨vb, 0, none⟩) 1 vc, .slice (some ⟨g, (i + 1) * 3, none⟩) lb cb]).run Try.prog w = .ok (.value (.bool false)) w := fun lb cb => by
    rw [run_callFunc_extern Try.func42 (by kernel_rfl) (by kernel_rfl) (by kernel_rfl) (e := Extern.SlicesOverlaps.overlaps #[22, 22] #[4]) (by kernel_rfl),
      Lib.run_overlaps_apart w 22 4 36 Try.underlying22 3 (fun _ => by kernel_rfl) ⟨vb, 0, none⟩ ⟨g, (i + 1) * 3, none⟩ 1 vc lb cb hne 36 36 vcur.size cur.size
        (by simp [World.shape?, hb]) (by simp [World.shape?, hg]) (by omega) (frozen_of_row w vb _ vcur _ hb) (frozen_of_row w vb _ vcur _ hb)]
    rfl
  have hnlt : (i : Int) < n := by omega
  have hne' : ¬ ((i : Int) = n) := by omega
  have hroom' : (n : Int) + 1 ≤ c := by omega
  unfold maxLen at hcm
  have hcp1 : ∀ (W : World), W.heap = w.heap → ∀ ty dc sc, (Builtin.copy_ #[22, 22] ty #[.slice (some ⟨g, (i + 1) * 3, none⟩) (n - i) dc, .slice (some ⟨g, i * 3, none⟩) (n + 1 - i) sc]).run Try.prog W = .ok (goInt ((n - i : Nat) : Int)) (W.setRow g (spl cur.toList (i * 3 + 3) (xs.drop (i * 3))).toArray) := fun W hW ty dc sc => by
    have hmin : Nat.min (n + 1 - i) (n - i) = n - i := by simp only [Nat.min_def]; split <;> omega
    have := run_copy_K (P := Try.prog) W 22 22 ty 36 g ((i + 1) * 3) (n - i) dc ⟨g, i * 3, none⟩ (n + 1 - i) sc cur 36 (xs.drop (i * 3)) 3 Try.underlying22 hsz (by rw [hW]; exact hg)
      (by rw [hmin, List.length_drop, hxl]; omega) (fun j u hu => by
        rw [List.getElem?_drop, ← ht, List.getElem?_take] at hu
        split at hu
        · rw [Addr.add_lit, cell_of_row W g _ cur 36 (0, 0) (by rw [hW]; exact hg)]
          simpa using hu
        · cases hu) (by rw [List.length_drop, hxl, hcs]; omega) (fun u hu => h1x u (List.mem_of_mem_drop hu))
    rw [hmin] at this
    rw [this]
    congr 2
    have e : ((i + 1) * 3) = i * 3 + 3 := by omega
    rw [e]
    exact congrArg List.toArray (over_get (by rw [List.length_drop, hxl, Array.length_toList, hcs]; omega))
  obtain ⟨L1, hL1⟩ : ∃ L1, L1 = spl cur.toList (i * 3 + 3) (xs.drop (i * 3)) := ⟨_, rfl⟩
  have hL1l : L1.length = c * 3 := by rw [hL1, length_spl _ _ _ (by rw [List.length_drop, hxl, Array.length_toList, hcs]; omega), Array.length_toList, hcs]
  rw [← hL1] at hcp1
  have hcp2 : ∀ (W : World), W.heap[g]? = some (.cells L1.toArray 36 (0, 0)) → W.heap[vb]? = w.heap[vb]? → ∀ ty dc, (Builtin.copy_ #[22, 22] ty #[.slice (some ⟨g, i * 3, none⟩) (n + 1 - i) dc, .slice (some ⟨vb, 0, none⟩) 1 vc]).run Try.prog W = .ok (goInt 1) (W.setRow g (spl L1 (i * 3) ys).toArray) := fun W hW hV ty dc => by
    have hmin : Nat.min 1 (n + 1 - i) = 1 := by simp only [Nat.min_def]; split <;> omega
    have := run_copy_K (P := Try.prog) W 22 22 ty 36 g (i * 3) (n + 1 - i) dc ⟨vb, 0, none⟩ 1 vc L1.toArray 36 ys 3 Try.underlying22 hsz hW
      (by rw [hmin, hy]) (fun j u hu => by
        rw [Addr.add_lit, Nat.zero_add, cell_of_row W vb _ vcur 36 (0, 0) (by rw [hV]; exact hb)]
        exact take_cell hbt hu) (by rw [List.size_toArray, hL1l, hy]; omega) h1y
    rw [hmin] at this
    rw [this]
    congr 2
    exact congrArg List.toArray (over_get (by rw [hL1l, hy]; omega))
  have hfin : ∀ (W : World), W.heap[g]? = some (.cells L1.toArray 36 (0, 0)) → (W.setRow g (spl L1 (i * 3) ys).toArray).ownsRow base 36 3 (.slice (some ⟨g, 0, none⟩) (n + 1) c) (n + 1) (xs.take (i * 3) ++ ys ++ xs.drop (i * 3)) := fun W hW => by
    refine ⟨by simp only [List.length_append, List.length_take, List.length_drop, hxl, hy]; omega, .inr ⟨g, c, _, rfl, hbg, setRow_heap W g _ _ 36 _ hW, by omega, by unfold maxLen; omega, ?_, ?_⟩⟩
    · rw [List.size_toArray, length_spl _ _ _ (by rw [hL1l, hy]; omega), hL1l]
    · rw [hL1]
      exact ins_lists hxl hy (by rw [hxl]; omega) (by rw [Array.length_toList, hcs]; omega) ht
  have HF := Lib.hid hfin
  have hgw := Lib.hid hg
  have hvb := Lib.hid (show ∀ (W : World) (cs : Array Value), W.heap = w.heap → (W.setRow g cs).heap[vb]? = w.heap[vb]? from fun W cs hW => (setRow_other W g vb cs (fun e => hne e)).trans (by rw [hW]))
  have hcg : ¬ (c = i) := by omega
  have hcg1 : ¬ (c = i + 1) := by omega
  have hwr : IntKind.i64.wrap ((i : Int) + 1) = (i : Int) + 1 := by rw [IntKind.wrap_i64]; omega
  have hb1 : (0 : Int) ≤ (i : Int) + 1 := by omega
  have htn : ((i : Int) + 1).toNat = i + 1 := by omega
  have hb2 : (i : Int) ≤ (n : Int) + 1 := by omega
  have hb3 : (i : Int) + 1 ≤ (n : Int) + 1 := by omega
  clear hfin ho hb hbt hy h1x h1y hg hcs ht hxl hL1 hL1l hsz hbg hne
  go_enter Try.func24, Try.ntmps24
  go_wp2_with (simp only [hov])
  refine rp_enter [] (fun _ => True) (by kernel_rfl) ?_
  apply rp_pure 0 rfl (by kernel_rfl) (fun _ _ _ h => h) rfl
  · (intro W; go_simp; try rfl)
  · (go_simp; try rfl)
  apply rp_pure 1 rfl (by kernel_rfl) (fun _ _ _ h => h) rfl
  · (intro W; go_simp; try rfl)
  · (go_simp; try rfl)
  apply rp_pure 2 rfl (by kernel_rfl) (fun _ _ _ h => h) rfl
  · (intro W; go_simp; try rfl)
  · (go_simp; try rfl)
  apply rp_pure 3 rfl (by kernel_rfl) (fun _ _ _ h => h) rfl
  · (intro W; go_simp; try rfl)
  · (go_simp; try rfl)
  apply rp_pure 4 rfl (by kernel_rfl) (fun _ _ _ h => h) rfl
  · (intro W; go_simp; try rfl)
  · (go_simp; try rfl)
  apply rp_pure 5 rfl (by kernel_rfl) (fun _ _ _ h => h) rfl
  · (intro W; go_simp; try rfl)
  · (go_simp; try rfl)
  apply rp_pure 6 rfl (by kernel_rfl) (fun _ _ _ h => h) rfl
  · (intro W; go_simp; try rfl)
  · (go_simp; try rfl)
  apply rp_pure 7 rfl (by kernel_rfl) (fun _ _ _ h => h) rfl
  · (intro W; go_simp; try rfl)
  · (go_simp; try rfl)
  refine rp_only 8 (by kernel_rfl) rfl (fun K hK => ?_)
  refine step_copy_R rfl _ _ 22 22 rfl (by rfl) (by rfl) (hcp1 w.drew rfl _ _ _) ?_
  refine hK _ _ ⟨fun _ _ => trivial, ?_⟩; clear hK K
  refine rp_done (by kernel_rfl) ?_
  have hg1 := setRow_heap w.drew g cur L1.toArray 36 (0, 0) hgw.out
  go_wp2_with (with_reducible refine wpList_copy_R rfl (.tmp 80) (.tmp 81) _ _ rfl rfl rfl (hcp2 _ hg1 (hvb.out w.drew _ rfl) _ _) ?_)
  go_ret
  exact ⟨_, rfl, HF.out _ hg1, ((show w.grownBy w.drew (some g) from ⟨rfl, rfl, rfl, Nat.le_refl _, fun _ _ _ => rfl⟩).trans (setRow_grown rfl)).trans (setRow_grown rfl), rfl⟩

set_option maxHeartbeats 4000000 in
theorem insH_grow (g n i : Nat) (xs ys : List Value) (vb base : Nat) (w : World) (ho : w.ownsRow base 36 3 (.slice (some ⟨g, 0, none⟩) n n) n xs) (vc : Nat) (vcur : Array Value) (hb : w.heap[vb]? = some (.cells vcur 36 (0, 0))) (hbt : vcur.toList.take 3 = ys) (hy : ys.length = 3)
    (h1x : ∀ u ∈ xs, u.oneCell' = true) (h1y : ∀ u ∈ ys, u.oneCell' = true) (hi : i < n) (hn : n ≤ 1000000) (hbase : base ≤ w.heap.size) :
    Calls Try.prog 24 #[.slice (some ⟨g, 0, none⟩) n n, .int .i64 i, .slice (some ⟨vb, 0, none⟩) 1 vc] w fun e w' => ∃ v', e = .returned v' ∧ w'.ownsRow base 36 3 v' (n + 1) (xs.take (i * 3) ++ ys ++ xs.drop (i * 3)) ∧ w.grownBy w' (some g) ∧
      v'.ownBlock = some w.heap.size := by
  have hsz : (Try.prog.info? 36).map (·.size) = some 3 := by kernel_rfl
  obtain ⟨i0, hi0, hz0, hz1, hz2⟩ := info_parts (show (Try.prog.info? 36).map (fun i => (i.zero, i.size, i.bytes)) = some (some (.agg #[.int .i64 0, .slice none 0 0, .slice none 0 0]), 3, 56) by kernel_rfl)
  rcases ho.2 with ⟨e, _⟩ | ⟨g', c', cur, e, hbg, hg, hnc, hcm, hcs, ht⟩
  · cases e
  cases e
  have hxl := ho.1
  have hcl := ho.cells (g := g) rfl
  have hold : (Builtin.firstCells i0.size i (.slice (some ⟨g, 0, none⟩) i n)).run Try.prog w.drew = .ok (xs.take (i * 3)).toArray w.drew := by
    rw [hz1]
    exact run_firstCells_some w.drew 3 i ⟨g, 0, none⟩ i n (xs.take (i * 3)) (by rw [List.length_take]; omega) (fun j v hj => by
      rw [List.getElem?_take] at hj
      split at hj
      · exact hcl j v hj
      · cases hj)
  have hrz : ∀ ty, (Builtin.append_ #[22, 3] ty #[.slice (some ⟨g, 0, none⟩) i n, .int .i64 ((n : Int) + 1 - (i : Int))]).run Try.prog w =
      .ok (.slice (some ⟨w.heap.size, 0, none⟩) (n + 1) (grownCap w (n + 1) n 36)) (w.drew.alloc (.cells ((xs.take (i * 3)).toArray ++ Builtin.zeroCells ((.agg #[.int .i64 0, .slice none 0 0, .slice none 0 0]) : Value).cells (n + 1 - i) ++ Builtin.zeroCells ((.agg #[.int .i64 0, .slice none 0 0, .slice none 0 0]) : Value).cells (grownCap w (n + 1) n 36 - (n + 1))) 36)) := fun ty => by
    have hik : i + (n + 1 - i) = n + 1 := by omega
    have h := Lib.run_append_grow_zeros (P := Try.prog) w 22 3 ty 36 i0 _ .i64 .i64 Try.underlying22 Try.underlying3 hi0 hz0 (some ⟨g, 0, none⟩) i n (xs.take (i * 3)) hold (n + 1 - i) (by omega) (by omega) (by omega) (by omega) (by rw [hz2]; omega) (by rw [hz2, hik]; exact growslice_fits (by omega) (by omega))
    rw [hik] at h
    rw [show (n : Int) + 1 - (i : Int) = ((n + 1 - i : Nat) : Int) by omega]
    exact h
  obtain ⟨G, hG⟩ : ∃ G, G = grownCap w (n + 1) n 36 := ⟨_, rfl⟩
  have hGn : n + 1 ≤ G := by rw [hG]; exact grownCap_ge w _ _ _
  have hGm : G ≤ maxLen := by rw [hG]; exact grownCap_le_maxLen w (n + 1) n 36 (by unfold maxLen; omega)
  obtain ⟨ROW, hROW⟩ : ∃ ROW : List Value, ROW = xs.take (i * 3) ++ ((Builtin.zeroCells ((.agg #[.int .i64 0, .slice none 0 0, .slice none 0 0]) : Value).cells (n + 1 - i)).toList ++ (Builtin.zeroCells ((.agg #[.int .i64 0, .slice none 0 0, .slice none 0 0]) : Value).cells (G - (n + 1))).toList) := ⟨_, rfl⟩
  have hRa : (xs.take (i * 3)).toArray ++ Builtin.zeroCells ((.agg #[.int .i64 0, .slice none 0 0, .slice none 0 0]) : Value).cells (n + 1 - i) ++ Builtin.zeroCells ((.agg #[.int .i64 0, .slice none 0 0, .slice none 0 0]) : Value).cells (G - (n + 1)) = ROW.toArray := by rw [hROW]; apply Array.toList_inj.1; simp
  have hRl : ROW.length = G * 3 := by
    rw [hROW]
    simp only [List.length_append, List.length_take, Array.length_toList, size_zeroCells, hxl]
    simp only [Value.cells, List.size_toArray, List.length_cons, List.length_nil]
    omega
  have hRt : ROW.take (i * 3) = xs.take (i * 3) := by
    rw [hROW, List.take_append_of_le_length (by rw [List.length_take]; omega), List.take_take, Nat.min_self]
  rw [← hG, hRa] at hrz
  have hcpA : ∀ (W : World), W.heap[w.heap.size]? = some (.cells ROW.toArray 36 (0, 0)) → W.heap[vb]? = w.heap[vb]? → ∀ ty dc, (Builtin.copy_ #[22, 22] ty #[.slice (some ⟨w.heap.size, i * 3, none⟩) (n + 1 - i) dc, .slice (some ⟨vb, 0, none⟩) 1 vc]).run Try.prog W = .ok (goInt 1) (W.setRow w.heap.size (spl ROW (i * 3) ys).toArray) := fun W hW hV ty dc => by
    have hmin : Nat.min 1 (n + 1 - i) = 1 := by simp only [Nat.min_def]; split <;> omega
    have := run_copy_K (P := Try.prog) W 22 22 ty 36 w.heap.size (i * 3) (n + 1 - i) dc ⟨vb, 0, none⟩ 1 vc ROW.toArray 36 ys 3 Try.underlying22 hsz hW
      (by rw [hmin, hy]) (fun j u hu => by
        rw [Addr.add_lit, Nat.zero_add, cell_of_row W vb _ vcur 36 (0, 0) (by rw [hV]; exact hb)]
        exact take_cell hbt hu) (by rw [List.size_toArray, hRl, hy]; omega) h1y
    rw [hmin] at this
    rw [this]
    congr 2
    exact congrArg List.toArray (over_get (by rw [hRl, hy]; omega))
  obtain ⟨L1, hL1⟩ : ∃ L1, L1 = spl ROW (i * 3) ys := ⟨_, rfl⟩
  have hL1l : L1.length = G * 3 := by rw [hL1, length_spl _ _ _ (by rw [hRl, hy]; omega), hRl]
  rw [← hL1] at hcpA
  have hcpB : ∀ (W : World), W.heap[w.heap.size]? = some (.cells L1.toArray 36 (0, 0)) → W.heap[g]? = w.heap[g]? → ∀ ty dc sc, (Builtin.copy_ #[22, 22] ty #[.slice (some ⟨w.heap.size, (i + 1) * 3, none⟩) (n - i) dc, .slice (some ⟨g, i * 3, none⟩) (n - i) sc]).run Try.prog W = .ok (goInt ((n - i : Nat) : Int)) (W.setRow w.heap.size (spl L1 (i * 3 + 3) (xs.drop (i * 3))).toArray) := fun W hW hV ty dc sc => by
    have hmin : Nat.min (n - i) (n - i) = n - i := Nat.min_self _
    have := run_copy_K (P := Try.prog) W 22 22 ty 36 w.heap.size ((i + 1) * 3) (n - i) dc ⟨g, i * 3, none⟩ (n - i) sc L1.toArray 36 (xs.drop (i * 3)) 3 Try.underlying22 hsz hW
      (by rw [hmin, List.length_drop, hxl]; omega) (fun j u hu => by
        rw [List.getElem?_drop, ← ht, List.getElem?_take] at hu
        split at hu
        · rw [Addr.add_lit, cell_of_row W g _ cur 36 (0, 0) (by rw [hV]; exact hg)]
          simpa using hu
        · cases hu) (by rw [List.length_drop, hxl, List.size_toArray, hL1l]; omega) (fun u hu => h1x u (List.mem_of_mem_drop hu))
    rw [hmin] at this
    rw [this]
    congr 2
    have e : ((i + 1) * 3) = i * 3 + 3 := by omega
    rw [e]
    exact congrArg List.toArray (over_get (by rw [List.length_drop, hxl, hL1l]; omega))
  have hlg := (Array.getElem?_eq_some_iff.1 hg).1
  have hlv := (Array.getElem?_eq_some_iff.1 hb).1
  have hfin : ∀ (W : World), W.heap[w.heap.size]? = some (.cells L1.toArray 36 (0, 0)) → (W.setRow w.heap.size (spl L1 (i * 3 + 3) (xs.drop (i * 3))).toArray).ownsRow base 36 3 (.slice (some ⟨w.heap.size, 0, none⟩) (n + 1) G) (n + 1) (xs.take (i * 3) ++ ys ++ xs.drop (i * 3)) := fun W hW => by
    refine ⟨by simp only [List.length_append, List.length_take, List.length_drop, hxl, hy]; omega, .inr ⟨w.heap.size, G, _, rfl, hbase, setRow_heap W w.heap.size _ _ 36 _ hW, hGn, hGm, ?_, ?_⟩⟩
    · rw [List.size_toArray, length_spl _ _ _ (by rw [List.length_drop, hxl, hL1l]; omega), hL1l]
    · rw [hL1]
      exact ins_lists2 hxl hy (by rw [hxl]; omega) (by rw [hRl]; omega) hRt
  have HF := Lib.hid hfin
  obtain ⟨W1, hW1⟩ : ∃ W1, W1 = w.drew.alloc (.cells ROW.toArray 36) := ⟨_, rfl⟩
  have hn1 : W1.heap[w.heap.size]? = some (.cells ROW.toArray 36 (0, 0)) := by rw [hW1]; exact heap_alloc_new w.drew _
  have ho1 : ∀ k, k < w.heap.size → W1.heap[k]? = w.heap[k]? := fun k hk => by rw [hW1]; exact Below.heap_alloc w.drew _ k hk
  have hgr1 : w.grownBy W1 (some g) := by rw [hW1]; exact (show w.grownBy w.drew (some g) from ⟨rfl, rfl, rfl, Nat.le_refl _, fun _ _ _ => rfl⟩).trans (World.grownBy_alloc _ _ _)
  rw [← hW1] at hrz
  have hcA := hcpA W1 hn1 (ho1 vb hlv)
  have hn2 := setRow_heap W1 w.heap.size _ L1.toArray 36 (0, 0) hn1
  have hcB := hcpB (W1.setRow w.heap.size L1.toArray).drew hn2 ((setRow_other W1 w.heap.size g _ (by omega)).trans (ho1 g hlg))
  have hgr2 : w.grownBy ((W1.setRow w.heap.size L1.toArray).drew.setRow w.heap.size (spl L1 (i * 3 + 3) (xs.drop (i * 3))).toArray) (some g) :=
    ⟨hgr1.os, hgr1.tape, hgr1.output, by simpa [World.setRow, World.drew] using hgr1.size, fun k hk hne => (setRow_other _ _ k _ (by omega)).trans ((setRow_other W1 _ k _ (by omega)).trans (ho1 k hk))⟩
  have HG := Lib.hid (And.intro (hfin (W1.setRow w.heap.size L1.toArray).drew hn2) hgr2)
  have hwr : IntKind.i64.wrap ((i : Int) + 1) = (i : Int) + 1 := by rw [IntKind.wrap_i64]; omega
  have hb1 : (0 : Int) ≤ (i : Int) + 1 := by omega
  have htn : ((i : Int) + 1).toNat = i + 1 := by omega
  have hb2 : (i : Int) ≤ (n : Int) + 1 := by omega
  have hb3 : (i : Int) + 1 ≤ (n : Int) + 1 := by omega
  have hb4 : (i : Int) ≤ (n : Int) := by omega
  have hnlt : (i : Int) < n := by omega
  have hne' : ¬ ((i : Int) = n) := by omega
  have hgi : ¬ (G = i) := by omega
  have hgi1 : ¬ (G = i + 1) := by omega
  have hni : ¬ (n = i) := by omega
  unfold maxLen at hGm
  clear hfin ho hb hbt hy h1x h1y hg hcs ht hxl hcl hL1 hL1l hsz hbg hz0 hz1 hz2 hi0 hold hG hROW hRa hRl hRt hW1 ho1 hgr1 hgr2 hcpA hcpB hn1 hn2 hcm hlg hlv hbase HF
  have hrz := hrz
  go_enter Try.func24, Try.ntmps24
  go_wp2_with (first | (with_reducible refine wpList_append_run' rfl (.tmp 34) (.tmp 39) _ _ rfl rfl rfl (hrz _) ?_) | (with_reducible refine wpList_copy_R rfl (.tmp 43) (.tmp 44) _ _ rfl rfl rfl (hcA _ _) ?_))
  refine rp_enter [] (fun _ => True) (by kernel_rfl) ?_
  apply rp_pure 0 rfl (by kernel_rfl) (fun _ _ _ h => h) rfl
  · (intro W; go_simp; try rfl)
  · (go_simp; try rfl)
  apply rp_pure 1 rfl (by kernel_rfl) (fun _ _ _ h => h) rfl
  · (intro W; go_simp; try rfl)
  · (go_simp; try rfl)
  apply rp_pure 2 rfl (by kernel_rfl) (fun _ _ _ h => h) rfl
  · (intro W; go_simp; try rfl)
  · (go_simp; try rfl)
  apply rp_pure 3 rfl (by kernel_rfl) (fun _ _ _ h => h) rfl
  · (intro W; go_simp; try rfl)
  · (go_simp; try rfl)
  apply rp_pure 4 rfl (by kernel_rfl) (fun _ _ _ h => h) rfl
  · (intro W; go_simp; try rfl)
  · (go_simp; try rfl)
  apply rp_pure 5 rfl (by kernel_rfl) (fun _ _ _ h => h) rfl
  · (intro W; go_simp; try rfl)
  · (go_simp; try rfl)
  apply rp_pure 6 rfl (by kernel_rfl) (fun _ _ _ h => h) rfl
  · (intro W; go_simp; try rfl)
  · (go_simp; try rfl)
  apply rp_pure 7 rfl (by kernel_rfl) (fun _ _ _ h => h) rfl
  · (intro W; go_simp; try rfl)
  · (go_simp; try rfl)
  refine rp_only 8 (by kernel_rfl) rfl (fun K hK => ?_)
  refine step_copy_R rfl _ _ 22 22 rfl (by rfl) (by rfl) (hcB _ _ _) ?_
  refine hK _ _ ⟨fun _ _ => trivial, ?_⟩; clear hK K
  refine rp_done (by kernel_rfl) ?_
  go_wp2
  go_ret
  exact ⟨_, rfl, HG.out.1, HG.out.2, rfl⟩

/-- slices.Insert of one element. -/
theorem insH_any (v : Value) (n i : Nat) (xs ys : List Value) (vb base : Nat) (w : World) (ho : w.ownsRow base 36 3 v n xs) (vc : Nat) (vcur : Array Value) (hb : w.heap[vb]? = some (.cells vcur 36 (0, 0))) (hbt : vcur.toList.take 3 = ys) (hy : ys.length = 3)
    (h1x : ∀ u ∈ xs, u.oneCell' = true) (h1y : ∀ u ∈ ys, u.oneCell' = true) (hne : v.ownBlock ≠ some vb) (hi : i ≤ n) (hn : n ≤ 1000000) (hbase : base ≤ w.heap.size) :
    Calls Try.prog 24 #[v, .int .i64 i, .slice (some ⟨vb, 0, none⟩) 1 vc] w fun e w' => ∃ v', e = .returned v' ∧ w'.ownsRow base 36 3 v' (n + 1) (xs.take (i * 3) ++ ys ++ xs.drop (i * 3)) ∧ w.grownBy w' v.ownBlock ∧
      (v'.ownBlock = v.ownBlock ∨ v'.ownBlock = some w.heap.size) := by
  by_cases hin : i = n
  · subst hin
    refine (insH_end v i xs ys vb base w ho vc vcur hb hbt hy h1y hn hbase).mono ?_
    rintro e w' ⟨v', h1, h2, h3, h4⟩
    refine ⟨v', h1, ?_, h3, h4⟩
    rw [List.take_of_length_le (by rw [ho.1]; omega), List.drop_eq_nil_of_le (by rw [ho.1]; omega), List.append_nil]
    exact h2
  · rcases id ho.2 with ⟨rfl, rfl⟩ | ⟨g, c, cur, rfl, hbg, hg, hnc, hcm, hcs, ht⟩
    · omega
    · by_cases hc : n + 1 ≤ c
      · exact (insH_shift g c n i xs ys vb base w ho vc vcur hb hbt hy h1x h1y (fun e => hne (by rw [e]; rfl)) (by omega) hc hn).mono fun e w' ⟨v', h1, h2, h3, h4⟩ => ⟨v', h1, h2, h3, .inl h4⟩
      · obtain rfl : c = n := by omega
        exact (insH_grow g c i xs ys vb base w ho vc vcur hb hbt hy h1x h1y (by omega) hn hbase).mono fun e w' ⟨v', h1, h2, h3, h4⟩ => ⟨v', h1, h2, h3, .inr h4⟩
end Go.Proofs.Ytjcboeldmgmfcaa
end

/-
slices.Insert of one element, at another type.
-/
section
namespace Go.Proofs.Ytjcboeldmgmfcaa
open Go.RowKit
attribute [local go_sem ↓] Go.wp_at_zero Go.wp_at_succ

set_option maxHeartbeats 4000000 in
theorem insB_end (v : Value) (n : Nat) (xs ys : List Value) (vb base : Nat) (w : World) (ho : w.ownsRow base 23 1 v n xs) (vc : Nat) (vcur : Array Value) (hb : w.heap[vb]? = some (.cells vcur 23 (0, 0))) (hbt : vcur.toList.take 1 = ys) (hy : ys.length = 1)
    (h1y : ∀ u ∈ ys, u.oneCell' = true) (hn : n ≤ 1000000) (hbase : base ≤ w.heap.size) :
    Calls Try.prog 31 #[v, .int .i64 n, .slice (some ⟨vb, 0, none⟩) 1 vc] w fun e w' => ∃ v', e = .returned v' ∧ w'.ownsRow base 23 1 v' (n + 1) (xs ++ ys) ∧ w.grownBy w' v.ownBlock ∧
      (v'.ownBlock = v.ownBlock ∨ v'.ownBlock = some w.heap.size) := by
  obtain ⟨i0, hi0, hz0, hz1, hz2⟩ := info_parts (show (Try.prog.info? 23).map (fun i => (i.zero, i.size, i.bytes)) = some (some (.slice none 0 0), 1, 24) by kernel_rfl)
  obtain ⟨v', w2, hrun, h2, h3, h4, h5⟩ := run_append_own_at (P := Try.prog) w base 34 34 23 i0 _ 1 24 Try.underlying34 hi0 hz0 hz1 hz2 rfl (by omega) v n xs ho ⟨vb, 0, none⟩ 1 vc ys (by omega)
    (fun j u hu => by rw [Addr.add_lit, Nat.zero_add, cell_of_row w vb _ vcur 23 (0, 0) hb]; exact take_cell hbt hu) h1y (by unfold maxLen; omega) (by omega) hbase
  have H2 := Lib.hid (And.intro h2 (And.intro h3 h5))
  rcases ho.2 with ⟨rfl, rfl⟩ | ⟨g, c, cur, rfl, hbg, hg, hnc, hcm, hcs, ht⟩
  · clear h2 h3 h4 h5 hz0 hz1 hz2 hi0 ho hb hbt hy h1y hbase
    go_enter Try.func31, Try.ntmps31
    go_wp2_with (at_builtin; refine wpList_append_run' rfl _ _ _ _ rfl (by rfl) (by rfl) hrun ?_)
    go_ret
    exact ⟨_, rfl, H2.out⟩
  · unfold maxLen at hcm
    have hg' := Lib.hid hg
    have hn0 : (0 : Int) ≤ n := by omega
    clear h2 h3 h4 h5 hz0 hz1 hz2 hi0 ho hb hbt hy h1y hbase hg hcs ht
    by_cases hcn : c = n
    · subst hcn
      go_enter Try.func31, Try.ntmps31
      go_wp2_with (at_builtin; refine wpList_append_run' rfl _ _ _ _ rfl (by rfl) (by rfl) hrun ?_)
      go_ret
      exact ⟨_, rfl, H2.out⟩
    · go_enter Try.func31, Try.ntmps31
      go_wp2_with (at_builtin; refine wpList_append_run' rfl _ _ _ _ rfl (by rfl) (by rfl) hrun ?_)
      go_ret
      exact ⟨_, rfl, H2.out⟩

set_option maxHeartbeats 4000000 in
theorem insB_shift (g c n i : Nat) (xs ys : List Value) (vb base : Nat) (w : World) (ho : w.ownsRow base 23 1 (.slice (some ⟨g, 0, none⟩) n c) n xs) (vc : Nat) (vcur : Array Value) (hb : w.heap[vb]? = some (.cells vcur 23 (0, 0))) (hbt : vcur.toList.take 1 = ys) (hy : ys.length = 1)
    (h1x : ∀ u ∈ xs, u.oneCell' = true) (h1y : ∀ u ∈ ys, u.oneCell' = true) (hne : vb ≠ g) (hi : i < n) (hroom : n + 1 ≤ c) (hn : n ≤ 1000000) :
    Calls Try.prog 31 #[.slice (some ⟨g, 0, none⟩) n c, .int .i64 i, .slice (some ⟨vb, 0, none⟩) 1 vc] w fun e w' => ∃ v', e = .returned v' ∧ w'.ownsRow base 23 1 v' (n + 1) (xs.take (i) ++ ys ++ xs.drop (i)) ∧ w.grownBy w' (some g) ∧
      v'.ownBlock = some g := by
  have hsz : (Try.prog.info? 23).map (·.size) = some 1 := by kernel_rfl
  rcases ho.2 with ⟨e, _⟩ | ⟨g', c', cur, e, hbg, hg, hnc, hcm, hcs, ht⟩
  · cases e
  cases e
  have hxl := ho.1
  have hov : ∀ lb cb, (callFunc 53 #[.slice (some ⟨vb, 0, none⟩) 1 vc, .slice (some ⟨g, i + 1, none⟩) lb cb]).run Try.prog w = .ok (.value (.bool false)) w := fun lb cb => by
    rw [run_callFunc_extern Try.func53 (by kernel_rfl) (by kernel_rfl) (by kernel_rfl) (e := Extern.SlicesOverlaps.overlaps #[34, 34] #[4]) (by kernel_rfl),
      Lib.run_overlaps_apart w 34 4 23 Try.underlying34 1 (fun _ => by kernel_rfl) ⟨vb, 0, none⟩ ⟨g, i + 1, none⟩ 1 vc lb cb hne 23 23 vcur.size cur.size
        (by simp [World.shape?, hb]) (by simp [World.shape?, hg]) (by omega) (frozen_of_row w vb _ vcur _ hb) (frozen_of_row w vb _ vcur _ hb)]
    rfl
  have hnlt : (i : Int) < n := by omega
  have hne' : ¬ ((i : Int) = n) := by omega
  have hroom' : (n : Int) + 1 ≤ c := by omega
  unfold maxLen at hcm
  have hcp1 : ∀ (W : World), W.heap = w.heap → ∀ ty dc sc, (Builtin.copy_ #[34, 34] ty #[.slice (some ⟨g, i + 1, none⟩) (n - i) dc, .slice (some ⟨g, i, none⟩) (n + 1 - i) sc]).run Try.prog W = .ok (goInt ((n - i : Nat) : Int)) (W.setRow g (spl cur.toList (i + 1) (xs.drop (i))).toArray) := fun W hW ty dc sc => by
    have hmin : Nat.min (n + 1 - i) (n - i) = n - i := by simp only [Nat.min_def]; split <;> omega
    have := run_copy_K (P := Try.prog) W 34 34 ty 23 g (i + 1) (n - i) dc ⟨g, i, none⟩ (n + 1 - i) sc cur 23 (xs.drop (i)) 1 Try.underlying34 hsz (by rw [hW]; exact hg)
      (by rw [hmin, List.length_drop, hxl]; omega) (fun j u hu => by
        rw [List.getElem?_drop, ← ht, List.getElem?_take] at hu
        split at hu
        · rw [Addr.add_lit, cell_of_row W g _ cur 23 (0, 0) (by rw [hW]; exact hg)]
          simpa using hu
        · cases hu) (by rw [List.length_drop, hxl, hcs]; omega) (fun u hu => h1x u (List.mem_of_mem_drop hu))
    rw [hmin] at this
    rw [this]
    congr 2
    have e : (i + 1) = i + 1 := by omega
    rw [e]
    exact congrArg List.toArray (over_get (by rw [List.length_drop, hxl, Array.length_toList, hcs]; omega))
  obtain ⟨L1, hL1⟩ : ∃ L1, L1 = spl cur.toList (i + 1) (xs.drop (i)) := ⟨_, rfl⟩
  have hL1l : L1.length = c * 1 := by rw [hL1, length_spl _ _ _ (by rw [List.length_drop, hxl, Array.length_toList, hcs]; omega), Array.length_toList, hcs]
  rw [← hL1] at hcp1
  have hcp2 : ∀ (W : World), W.heap[g]? = some (.cells L1.toArray 23 (0, 0)) → W.heap[vb]? = w.heap[vb]? → ∀ ty dc, (Builtin.copy_ #[34, 34] ty #[.slice (some ⟨g, i, none⟩) (n + 1 - i) dc, .slice (some ⟨vb, 0, none⟩) 1 vc]).run Try.prog W = .ok (goInt 1) (W.setRow g (spl L1 (i) ys).toArray) := fun W hW hV ty dc => by
    have hmin : Nat.min 1 (n + 1 - i) = 1 := by simp only [Nat.min_def]; split <;> omega
    have := run_copy_K (P := Try.prog) W 34 34 ty 23 g (i) (n + 1 - i) dc ⟨vb, 0, none⟩ 1 vc L1.toArray 23 ys 1 Try.underlying34 hsz hW
      (by rw [hmin, hy]) (fun j u hu => by
        rw [Addr.add_lit, Nat.zero_add, cell_of_row W vb _ vcur 23 (0, 0) (by rw [hV]; exact hb)]
        exact take_cell hbt hu) (by rw [List.size_toArray, hL1l, hy]; omega) h1y
    rw [hmin] at this
    rw [this]
    congr 2
    exact congrArg List.toArray (over_get (by rw [hL1l, hy]; omega))
  have hfin : ∀ (W : World), W.heap[g]? = some (.cells L1.toArray 23 (0, 0)) → (W.setRow g (spl L1 (i) ys).toArray).ownsRow base 23 1 (.slice (some ⟨g, 0, none⟩) (n + 1) c) (n + 1) (xs.take (i) ++ ys ++ xs.drop (i)) := fun W hW => by
    refine ⟨by simp only [List.length_append, List.length_take, List.length_drop, hxl, hy]; omega, .inr ⟨g, c, _, rfl, hbg, setRow_heap W g _ _ 23 _ hW, by omega, by unfold maxLen; omega, ?_, ?_⟩⟩
    · rw [List.size_toArray, length_spl _ _ _ (by rw [hL1l, hy]; omega), hL1l]
    · rw [hL1]
      exact ins_lists hxl hy (by rw [hxl]; omega) (by rw [Array.length_toList, hcs]; omega) ht
  have HF := Lib.hid hfin
  have hgw := Lib.hid hg
  have hvb := Lib.hid (show ∀ (W : World) (cs : Array Value), W.heap = w.heap → (W.setRow g cs).heap[vb]? = w.heap[vb]? from fun W cs hW => (setRow_other W g vb cs (fun e => hne e)).trans (by rw [hW]))
  have hcg : ¬ (c = i) := by omega
  have hcg1 : ¬ (c = i + 1) := by omega
  have hwr : IntKind.i64.wrap ((i : Int) + 1) = (i : Int) + 1 := by rw [IntKind.wrap_i64]; omega
  have hb1 : (0 : Int) ≤ (i : Int) + 1 := by omega
  have htn : ((i : Int) + 1).toNat = i + 1 := by omega
  have hb2 : (i : Int) ≤ (n : Int) + 1 := by omega
  have hb3 : (i : Int) + 1 ≤ (n : Int) + 1 := by omega
  clear hfin ho hb hbt hy h1x h1y hg hcs ht hxl hL1 hL1l hsz hbg hne
  go_enter Try.func31, Try.ntmps31
  go_wp2_with (simp only [hov])
  refine rp_enter [] (fun _ => True) (by kernel_rfl) ?_
  apply rp_pure 0 rfl (by kernel_rfl) (fun _ _ _ h => h) rfl
  · (intro W; go_simp; try rfl)
  · (go_simp; try rfl)
  apply rp_pure 1 rfl (by kernel_rfl) (fun _ _ _ h => h) rfl
  · (intro W; go_simp; try rfl)
  · (go_simp; try rfl)
  apply rp_pure 2 rfl (by kernel_rfl) (fun _ _ _ h => h) rfl
  · (intro W; go_simp; try rfl)
  · (go_simp; try rfl)
  apply rp_pure 3 rfl (by kernel_rfl) (fun _ _ _ h => h) rfl
  · (intro W; go_simp; try rfl)
  · (go_simp; try rfl)
  apply rp_pure 4 rfl (by kernel_rfl) (fun _ _ _ h => h) rfl
  · (intro W; go_simp; try rfl)
  · (go_simp; try rfl)
  apply rp_pure 5 rfl (by kernel_rfl) (fun _ _ _ h => h) rfl
  · (intro W; go_simp; try rfl)
  · (go_simp; try rfl)
  apply rp_pure 6 rfl (by kernel_rfl) (fun _ _ _ h => h) rfl
  · (intro W; go_simp; try rfl)
  · (go_simp; try rfl)
  apply rp_pure 7 rfl (by kernel_rfl) (fun _ _ _ h => h) rfl
  · (intro W; go_simp; try rfl)
  · (go_simp; try rfl)
  refine rp_only 8 (by kernel_rfl) rfl (fun K hK => ?_)
  refine step_copy_R rfl _ _ 34 34 rfl (by rfl) (by rfl) (hcp1 w.drew rfl _ _ _) ?_
  refine hK _ _ ⟨fun _ _ => trivial, ?_⟩; clear hK K
  refine rp_done (by kernel_rfl) ?_
  have hg1 := setRow_heap w.drew g cur L1.toArray 23 (0, 0) hgw.out
  go_wp2_with (with_reducible refine wpList_copy_R rfl (.tmp 80) (.tmp 81) _ _ rfl rfl rfl (hcp2 _ hg1 (hvb.out w.drew _ rfl) _ _) ?_)
  go_ret
  exact ⟨_, rfl, HF.out _ hg1, ((show w.grownBy w.drew (some g) from ⟨rfl, rfl, rfl, Nat.le_refl _, fun _ _ _ => rfl⟩).trans (setRow_grown rfl)).trans (setRow_grown rfl), rfl⟩

set_option maxHeartbeats 4000000 in
theorem insB_grow (g n i : Nat) (xs ys : List Value) (vb base : Nat) (w : World) (ho : w.ownsRow base 23 1 (.slice (some ⟨g, 0, none⟩) n n) n xs) (vc : Nat) (vcur : Array Value) (hb : w.heap[vb]? = some (.cells vcur 23 (0, 0))) (hbt : vcur.toList.take 1 = ys) (hy : ys.length = 1)
    (h1x : ∀ u ∈ xs, u.oneCell' = true) (h1y : ∀ u ∈ ys, u.oneCell' = true) (hi : i < n) (hn : n ≤ 1000000) (hbase : base ≤ w.heap.size) :
    Calls Try.prog 31 #[.slice (some ⟨g, 0, none⟩) n n, .int .i64 i, .slice (some ⟨vb, 0, none⟩) 1 vc] w fun e w' => ∃ v', e = .returned v' ∧ w'.ownsRow base 23 1 v' (n + 1) (xs.take (i) ++ ys ++ xs.drop (i)) ∧ w.grownBy w' (some g) ∧
      v'.ownBlock = some w.heap.size := by
  have hsz : (Try.prog.info? 23).map (·.size) = some 1 := by kernel_rfl
  obtain ⟨i0, hi0, hz0, hz1, hz2⟩ := info_parts (show (Try.prog.info? 23).map (fun i => (i.zero, i.size, i.bytes)) = some (some (.slice none 0 0), 1, 24) by kernel_rfl)
  rcases ho.2 with ⟨e, _⟩ | ⟨g', c', cur, e, hbg, hg, hnc, hcm, hcs, ht⟩
  · cases e
  cases e
  have hxl := ho.1
  have hcl := ho.cells (g := g) rfl
  have hold : (Builtin.firstCells i0.size i (.slice (some ⟨g, 0, none⟩) i n)).run Try.prog w.drew = .ok (xs.take (i)).toArray w.drew := by
    rw [hz1]
    exact run_firstCells_some w.drew 1 i ⟨g, 0, none⟩ i n (xs.take (i)) (by rw [List.length_take]; omega) (fun j v hj => by
      rw [List.getElem?_take] at hj
      split at hj
      · exact hcl j v hj
      · cases hj)
  have hrz : ∀ ty, (Builtin.append_ #[34, 3] ty #[.slice (some ⟨g, 0, none⟩) i n, .int .i64 ((n : Int) + 1 - (i : Int))]).run Try.prog w =
      .ok (.slice (some ⟨w.heap.size, 0, none⟩) (n + 1) (grownCap w (n + 1) n 23)) (w.drew.alloc (.cells ((xs.take (i)).toArray ++ Builtin.zeroCells ((.slice none 0 0) : Value).cells (n + 1 - i) ++ Builtin.zeroCells ((.slice none 0 0) : Value).cells (grownCap w (n + 1) n 23 - (n + 1))) 23)) := fun ty => by
    have hik : i + (n + 1 - i) = n + 1 := by omega
    have h := Lib.run_append_grow_zeros (P := Try.prog) w 34 3 ty 23 i0 _ .i64 .i64 Try.underlying34 Try.underlying3 hi0 hz0 (some ⟨g, 0, none⟩) i n (xs.take (i)) hold (n + 1 - i) (by omega) (by omega) (by omega) (by omega) (by rw [hz2]; omega) (by rw [hz2, hik]; exact growslice_fits (by omega) (by omega))
    rw [hik] at h
    rw [show (n : Int) + 1 - (i : Int) = ((n + 1 - i : Nat) : Int) by omega]
    exact h
  obtain ⟨G, hG⟩ : ∃ G, G = grownCap w (n + 1) n 23 := ⟨_, rfl⟩
  have hGn : n + 1 ≤ G := by rw [hG]; exact grownCap_ge w _ _ _
  have hGm : G ≤ maxLen := by rw [hG]; exact grownCap_le_maxLen w (n + 1) n 23 (by unfold maxLen; omega)
  obtain ⟨ROW, hROW⟩ : ∃ ROW : List Value, ROW = xs.take (i) ++ ((Builtin.zeroCells ((.slice none 0 0) : Value).cells (n + 1 - i)).toList ++ (Builtin.zeroCells ((.slice none 0 0) : Value).cells (G - (n + 1))).toList) := ⟨_, rfl⟩
  have hRa : (xs.take (i)).toArray ++ Builtin.zeroCells ((.slice none 0 0) : Value).cells (n + 1 - i) ++ Builtin.zeroCells ((.slice none 0 0) : Value).cells (G - (n + 1)) = ROW.toArray := by rw [hROW]; apply Array.toList_inj.1; simp
  have hRl : ROW.length = G * 1 := by
    rw [hROW]
    simp only [List.length_append, List.length_take, Array.length_toList, size_zeroCells, hxl]
    simp only [Value.cells, List.size_toArray, List.length_cons, List.length_nil]
    omega
  have hRt : ROW.take (i) = xs.take (i) := by
    rw [hROW, List.take_append_of_le_length (by rw [List.length_take]; omega), List.take_take, Nat.min_self]
  rw [← hG, hRa] at hrz
  have hcpA : ∀ (W : World), W.heap[w.heap.size]? = some (.cells ROW.toArray 23 (0, 0)) → W.heap[vb]? = w.heap[vb]? → ∀ ty dc, (Builtin.copy_ #[34, 34] ty #[.slice (some ⟨w.heap.size, i, none⟩) (n + 1 - i) dc, .slice (some ⟨vb, 0, none⟩) 1 vc]).run Try.prog W = .ok (goInt 1) (W.setRow w.heap.size (spl ROW (i) ys).toArray) := fun W hW hV ty dc => by
    have hmin : Nat.min 1 (n + 1 - i) = 1 := by simp only [Nat.min_def]; split <;> omega
    have := run_copy_K (P := Try.prog) W 34 34 ty 23 w.heap.size (i) (n + 1 - i) dc ⟨vb, 0, none⟩ 1 vc ROW.toArray 23 ys 1 Try.underlying34 hsz hW
      (by rw [hmin, hy]) (fun j u hu => by
        rw [Addr.add_lit, Nat.zero_add, cell_of_row W vb _ vcur 23 (0, 0) (by rw [hV]; exact hb)]
        exact take_cell hbt hu) (by rw [List.size_toArray, hRl, hy]; omega) h1y
    rw [hmin] at this
    rw [this]
    congr 2
    exact congrArg List.toArray (over_get (by rw [hRl, hy]; omega))
  obtain ⟨L1, hL1⟩ : ∃ L1, L1 = spl ROW (i) ys := ⟨_, rfl⟩
  have hL1l : L1.length = G * 1 := by rw [hL1, length_spl _ _ _ (by rw [hRl, hy]; omega), hRl]
  rw [← hL1] at hcpA
  have hcpB : ∀ (W : World), W.heap[w.heap.size]? = some (.cells L1.toArray 23 (0, 0)) → W.heap[g]? = w.heap[g]? → ∀ ty dc sc, (Builtin.copy_ #[34, 34] ty #[.slice (some ⟨w.heap.size, i + 1, none⟩) (n - i) dc, .slice (some ⟨g, i, none⟩) (n - i) sc]).run Try.prog W = .ok (goInt ((n - i : Nat) : Int)) (W.setRow w.heap.size (spl L1 (i + 1) (xs.drop (i))).toArray) := fun W hW hV ty dc sc => by
    have hmin : Nat.min (n - i) (n - i) = n - i := Nat.min_self _
    have := run_copy_K (P := Try.prog) W 34 34 ty 23 w.heap.size (i + 1) (n - i) dc ⟨g, i, none⟩ (n - i) sc L1.toArray 23 (xs.drop (i)) 1 Try.underlying34 hsz hW
      (by rw [hmin, List.length_drop, hxl]; omega) (fun j u hu => by
        rw [List.getElem?_drop, ← ht, List.getElem?_take] at hu
        split at hu
        · rw [Addr.add_lit, cell_of_row W g _ cur 23 (0, 0) (by rw [hV]; exact hg)]
          simpa using hu
        · cases hu) (by rw [List.length_drop, hxl, List.size_toArray, hL1l]; omega) (fun u hu => h1x u (List.mem_of_mem_drop hu))
    rw [hmin] at this
    rw [this]
    congr 2
    have e : (i + 1) = i + 1 := by omega
    rw [e]
    exact congrArg List.toArray (over_get (by rw [List.length_drop, hxl, hL1l]; omega))
  have hlg := (Array.getElem?_eq_some_iff.1 hg).1
  have hlv := (Array.getElem?_eq_some_iff.1 hb).1
  have hfin : ∀ (W : World), W.heap[w.heap.size]? = some (.cells L1.toArray 23 (0, 0)) → (W.setRow w.heap.size (spl L1 (i + 1) (xs.drop (i))).toArray).ownsRow base 23 1 (.slice (some ⟨w.heap.size, 0, none⟩) (n + 1) G) (n + 1) (xs.take (i) ++ ys ++ xs.drop (i)) := fun W hW => by
    refine ⟨by simp only [List.length_append, List.length_take, List.length_drop, hxl, hy]; omega, .inr ⟨w.heap.size, G, _, rfl, hbase, setRow_heap W w.heap.size _ _ 23 _ hW, hGn, hGm, ?_, ?_⟩⟩
    · rw [List.size_toArray, length_spl _ _ _ (by rw [List.length_drop, hxl, hL1l]; omega), hL1l]
    · rw [hL1]
      exact ins_lists2 hxl hy (by rw [hxl]; omega) (by rw [hRl]; omega) hRt
  have HF := Lib.hid hfin
  obtain ⟨W1, hW1⟩ : ∃ W1, W1 = w.drew.alloc (.cells ROW.toArray 23) := ⟨_, rfl⟩
  have hn1 : W1.heap[w.heap.size]? = some (.cells ROW.toArray 23 (0, 0)) := by rw [hW1]; exact heap_alloc_new w.drew _
  have ho1 : ∀ k, k < w.heap.size → W1.heap[k]? = w.heap[k]? := fun k hk => by rw [hW1]; exact Below.heap_alloc w.drew _ k hk
  have hgr1 : w.grownBy W1 (some g) := by rw [hW1]; exact (show w.grownBy w.drew (some g) from ⟨rfl, rfl, rfl, Nat.le_refl _, fun _ _ _ => rfl⟩).trans (World.grownBy_alloc _ _ _)
  rw [← hW1] at hrz
  have hcA := hcpA W1 hn1 (ho1 vb hlv)
  have hn2 := setRow_heap W1 w.heap.size _ L1.toArray 23 (0, 0) hn1
  have hcB := hcpB (W1.setRow w.heap.size L1.toArray).drew hn2 ((setRow_other W1 w.heap.size g _ (by omega)).trans (ho1 g hlg))
  have hgr2 : w.grownBy ((W1.setRow w.heap.size L1.toArray).drew.setRow w.heap.size (spl L1 (i + 1) (xs.drop (i))).toArray) (some g) :=
    ⟨hgr1.os, hgr1.tape, hgr1.output, by simpa [World.setRow, World.drew] using hgr1.size, fun k hk hne => (setRow_other _ _ k _ (by omega)).trans ((setRow_other W1 _ k _ (by omega)).trans (ho1 k hk))⟩
  have HG := Lib.hid (And.intro (hfin (W1.setRow w.heap.size L1.toArray).drew hn2) hgr2)
  have hwr : IntKind.i64.wrap ((i : Int) + 1) = (i : Int) + 1 := by rw [IntKind.wrap_i64]; omega
  have hb1 : (0 : Int) ≤ (i : Int) + 1 := by omega
  have htn : ((i : Int) + 1).toNat = i + 1 := by omega
  have hb2 : (i : Int) ≤ (n : Int) + 1 := by omega
  have hb3 : (i : Int) + 1 ≤ (n : Int) + 1 := by omega
  have hb4 : (i : Int) ≤ (n : Int) := by omega
  have hnlt : (i : Int) < n := by omega
  have hne' : ¬ ((i : Int) = n) := by omega
  have hgi : ¬ (G = i) := by omega
  have hgi1 : ¬ (G = i + 1) := by omega
  have hni : ¬ (n = i) := by omega
  unfold maxLen at hGm
  clear hfin ho hb hbt hy h1x h1y hg hcs ht hxl hcl hL1 hL1l hsz hbg hz0 hz1 hz2 hi0 hold hG hROW hRa hRl hRt hW1 ho1 hgr1 hgr2 hcpA hcpB hn1 hn2 hcm hlg hlv hbase HF
  have hrz := hrz
  go_enter Try.func31, Try.ntmps31
  go_wp2_with (first | (with_reducible refine wpList_append_run' rfl (.tmp 34) (.tmp 39) _ _ rfl rfl rfl (hrz _) ?_) | (with_reducible refine wpList_copy_R rfl (.tmp 43) (.tmp 44) _ _ rfl rfl rfl (hcA _ _) ?_))
  refine rp_enter [] (fun _ => True) (by kernel_rfl) ?_
  apply rp_pure 0 rfl (by kernel_rfl) (fun _ _ _ h => h) rfl
  · (intro W; go_simp; try rfl)
  · (go_simp; try rfl)
  apply rp_pure 1 rfl (by kernel_rfl) (fun _ _ _ h => h) rfl
  · (intro W; go_simp; try rfl)
  · (go_simp; try rfl)
  apply rp_pure 2 rfl (by kernel_rfl) (fun _ _ _ h => h) rfl
  · (intro W; go_simp; try rfl)
  · (go_simp; try rfl)
  apply rp_pure 3 rfl (by kernel_rfl) (fun _ _ _ h => h) rfl
  · (intro W; go_simp; try rfl)
  · (go_simp; try rfl)
  apply rp_pure 4 rfl (by kernel_rfl) (fun _ _ _ h => h) rfl
  · (intro W; go_simp; try rfl)
  · (go_simp; try rfl)
  apply rp_pure 5 rfl (by kernel_rfl) (fun _ _ _ h => h) rfl
  · (intro W; go_simp; try rfl)
  · (go_simp; try rfl)
  apply rp_pure 6 rfl (by kernel_rfl) (fun _ _ _ h => h) rfl
  · (intro W; go_simp; try rfl)
  · (go_simp; try rfl)
  apply rp_pure 7 rfl (by kernel_rfl) (fun _ _ _ h => h) rfl
  · (intro W; go_simp; try rfl)
  · (go_simp; try rfl)
  refine rp_only 8 (by kernel_rfl) rfl (fun K hK => ?_)
  refine step_copy_R rfl _ _ 34 34 rfl (by rfl) (by rfl) (hcB _ _ _) ?_
  refine hK _ _ ⟨fun _ _ => trivial, ?_⟩; clear hK K
  refine rp_done (by kernel_rfl) ?_
  go_wp2
  go_ret
  exact ⟨_, rfl, HG.out.1, HG.out.2, rfl⟩

/-- slices.Insert of one element. -/
theorem insB_any (v : Value) (n i : Nat) (xs ys : List Value) (vb base : Nat) (w : World) (ho : w.ownsRow base 23 1 v n xs) (vc : Nat) (vcur : Array Value) (hb : w.heap[vb]? = some (.cells vcur 23 (0, 0))) (hbt : vcur.toList.take 1 = ys) (hy : ys.length = 1)
    (h1x : ∀ u ∈ xs, u.oneCell' = true) (h1y : ∀ u ∈ ys, u.oneCell' = true) (hne : v.ownBlock ≠ some vb) (hi : i ≤ n) (hn : n ≤ 1000000) (hbase : base ≤ w.heap.size) :
    Calls Try.prog 31 #[v, .int .i64 i, .slice (some ⟨vb, 0, none⟩) 1 vc] w fun e w' => ∃ v', e = .returned v' ∧ w'.ownsRow base 23 1 v' (n + 1) (xs.take (i) ++ ys ++ xs.drop (i)) ∧ w.grownBy w' v.ownBlock ∧
      (v'.ownBlock = v.ownBlock ∨ v'.ownBlock = some w.heap.size) := by
  by_cases hin : i = n
  · subst hin
    refine (insB_end v i xs ys vb base w ho vc vcur hb hbt hy h1y hn hbase).mono ?_
    rintro e w' ⟨v', h1, h2, h3, h4⟩
    refine ⟨v', h1, ?_, h3, h4⟩
    rw [List.take_of_length_le (by rw [ho.1]; omega), List.drop_eq_nil_of_le (by rw [ho.1]; omega), List.append_nil]
    exact h2
  · rcases id ho.2 with ⟨rfl, rfl⟩ | ⟨g, c, cur, rfl, hbg, hg, hnc, hcm, hcs, ht⟩
    · omega
    · by_cases hc : n + 1 ≤ c
      · exact (insB_shift g c n i xs ys vb base w ho vc vcur hb hbt hy h1x h1y (fun e => hne (by rw [e]; rfl)) (by omega) hc hn).mono fun e w' ⟨v', h1, h2, h3, h4⟩ => ⟨v', h1, h2, h3, .inl h4⟩
      · obtain rfl : c = n := by omega
        exact (insB_grow g c i xs ys vb base w ho vc vcur hb hbt hy h1x h1y (by omega) hn hbase).mono fun e w' ⟨v', h1, h2, h3, h4⟩ => ⟨v', h1, h2, h3, .inr h4⟩
end Go.Proofs.Ytjcboeldmgmfcaa
end

/-
slices.Delete of one handle of a row of the call's own.
-/
section
namespace Go.Proofs.Ytjcboeldmgmfcaa
open Go.RowKit
attribute [local go_sem ↓] Go.wp_at_zero Go.wp_at_succ

theorem setCells_row {P : Program} (w : World) (g o : Nat) (t : TypeId) (cur : Array Value) (vs : List Value) (hg : w.heap[g]? = some (.cells cur t (0, 0))) (hl : o + vs.length ≤ cur.size) (h1 : ∀ u ∈ vs, u.oneCell' = true) :
    w.setCells g o vs = w.setRow g (spl cur.toList o vs).toArray := by
  have a := run_storeCells_at P g o t vs 0 cur w hg (by simpa using hl) h1
  have b := run_storeCells_cells (P := P) g o vs 0 w (fun j hj => by rw [Nat.add_zero, cell_of_row w g _ cur t (0, 0) hg, Array.getElem?_eq_getElem (by omega)]; rfl) (fun j hj => frozen_of_row w g _ cur t hg) h1
  rw [a] at b
  simp only [Nat.add_zero] at b
  injection b with _ b
  rw [← b, over_get (by simpa using hl)]
theorem wpList_clear_R {P : Program} {w : World} {ops : Array Oper} {rest : List Oper} {o : Oper} {a : Act} {Q : Exit → Act → World → Prop} (hgd : o.guard = none) (d : Operand) (t : TypeId)
    (ho : o.op = .call { callee := .builtin .clear, args := #[d], argTypes := #[t] }) {v : Value} (hd : a.eval d = v) {v' : Value} {w' : World}
    (hr : (Builtin.clear_ #[t] o.type #[v]).run P w = .ok v' w') (h : wpList P ops Q rest (a.put o.dst v') w') : wpList P ops Q (o :: rest) a w := by
  refine wpList_plain hgd fun _ hK => ?_
  unfold Oper.wp execOp
  simp only [ho, resolve, invoke, builtin, Sem.run_bind, Sem.run_pure, Result.andThen_ok, List.map_toArray, List.map_cons, List.map_nil, hd, hr]
  exact hK _ _ h
theorem run_clear_K {P : Program} (w : World) (t e ty : TypeId) (z : Value) (sz : Nat) (ht : P.underlying t = some (.slice e)) (hv : ∀ w, (zeroValue e).run P w = .ok z w) (hz : z.cells.size = sz) (h1 : ∀ u ∈ z.cells.toList, u.oneCell' = true) (g o c : Nat) (et : TypeId) (cur : Array Value)
    (hg : w.heap[g]? = some (.cells cur et (0, 0))) (hl : o + sz ≤ cur.size) :
    (Builtin.clear_ #[t] ty #[.slice (some ⟨g, o, none⟩) 1 c]).run P w = .ok (.tuple #[]) (w.setRow g (spl cur.toList o z.cells.toList).toArray) := by
  have hzc : (Builtin.zeroCells z.cells 1).toList = z.cells.toList := by
    simp [Builtin.zeroCells]
    apply List.ext_getElem
    · simp
    · intro i h1 h2
      simp at h1
      simp [Nat.mod_eq_of_lt h1, h1]
  have hst := run_storeCells_at P g o et z.cells.toList 0 cur w hg (by simp; omega) h1
  simp only [Nat.add_zero] at hst
  rw [over_get (by simp; omega)] at hst
  simp [Builtin.clear_, run_underlying ht, hv, hzc, hst]
theorem del_lists {xs cur : List Value} {n i sz : Nat} {z : List Value} (hx : xs.length = n * sz) (hi : i < n) (hz : z.length = sz) (hc : n * sz ≤ cur.length) (ht : cur.take (n * sz) = xs) :
    (spl (spl cur (i * sz) (xs.drop ((i + 1) * sz))) ((n - 1) * sz) z).take ((n - 1) * sz) = xs.take (i * sz) ++ xs.drop ((i + 1) * sz) := by
  have e1 : (i + 1) * sz = i * sz + sz := by rw [Nat.add_mul, Nat.one_mul]
  have e2 : n * sz = (n - 1) * sz + sz := by rw [← Nat.succ_mul, show (n - 1).succ = n by omega]
  have e3 : i * sz ≤ (n - 1) * sz := Nat.mul_le_mul_right _ (by omega)
  have hl : (xs.drop ((i + 1) * sz)).length = (n - 1) * sz - i * sz := by rw [List.length_drop, hx]; omega
  have hs : (spl cur (i * sz) (xs.drop ((i + 1) * sz))).length = cur.length := length_spl _ _ _ (by rw [hl]; omega)
  rw [spl, List.take_left' (by rw [List.length_take, hs]; omega)]
  have ha : (cur.take (i * sz)).length = i * sz := by rw [List.length_take]; omega
  rw [spl, ← List.append_assoc, List.take_left' (by rw [List.length_append, ha, hl]; omega)]
  congr 1
  rw [← ht, List.take_take]; congr 1; omega

set_option maxHeartbeats 4000000 in
set_option maxRecDepth 100000 in
theorem delH (g c n i : Nat) (xs : List Value) (base : Nat) (w : World) (ho : w.ownsRow base 36 3 (.slice (some ⟨g, 0, none⟩) n c) n xs) (h1x : ∀ u ∈ xs, u.oneCell' = true) (hi : i < n) (hn : n ≤ 1000000) :
    Calls Try.prog 32 #[.slice (some ⟨g, 0, none⟩) n c, .int .i64 i, .int .i64 (i + 1 : Nat)] w fun e w' => ∃ v', e = .returned v' ∧ w'.ownsRow base 36 3 v' (n - 1) (xs.take (i * 3) ++ xs.drop ((i + 1) * 3)) ∧ w.grownBy w' (some g) ∧ v'.ownBlock = some g := by
  obtain ⟨i0, hi0, hz0, hz1, hz2⟩ := info_parts (show (Try.prog.info? 36).map (fun i => (i.zero, i.size, i.bytes)) = some (some (.agg #[.int .i64 0, .slice none 0 0, .slice none 0 0]), 3, 56) by kernel_rfl)
  rcases ho.2 with ⟨e, _⟩ | ⟨g', c', cur, e, hbg, hg, hnc, hcm, hcs, ht⟩
  · cases e
  cases e
  have hxl := ho.1
  unfold maxLen at hcm
  have hzv : ∀ w, (zeroValue 36).run Try.prog w = .ok (.agg #[.int .i64 0, .slice none 0 0, .slice none 0 0]) w := fun w => by
    kernel_rfl
  obtain ⟨news, hnews⟩ : ∃ news, news = xs.drop ((i + 1) * 3) := ⟨_, rfl⟩
  have hnl : news.length = (n - (i + 1)) * 3 := by rw [hnews, List.length_drop, hxl]; omega
  obtain ⟨L1, hL1⟩ : ∃ L1, L1 = spl cur.toList (i * 3) news := ⟨_, rfl⟩
  have hL1l : L1.length = c * 3 := by rw [hL1, length_spl _ _ _ (by rw [hnl, Array.length_toList, hcs]; omega), Array.length_toList, hcs]
  have h1n : ∀ u ∈ news, u.oneCell' = true := fun u hu => h1x u (List.mem_of_mem_drop (by rw [← hnews]; exact hu))
  have hsc : ∀ W : World, W.heap = w.heap → W.setCells g (0 + i * 3) news = W.setRow g L1.toArray := fun W hW => by
    rw [Nat.zero_add, setCells_row (P := Try.prog) W g (i * 3) 36 cur news (by rw [hW]; exact hg) (by rw [hnl, hcs]; omega) h1n, hL1]
  obtain ⟨A, hA, hsrc⟩ : ∃ A : Addr, (if c = i + 1 then some (⟨g, 0, none⟩ : Addr) else some ⟨g, (i + 1) * 3, none⟩) = some A ∧ Hid (∀ W : World, W.heap = w.heap → ∀ t u, news[t]? = some u → W.cell? (A.add t) = some u) := by
    by_cases h : c = i + 1
    · refine ⟨⟨g, 0, none⟩, by simp [h], fun W hW t u hu => ?_⟩
      have h0 : news.length = 0 := by rw [hnl]; omega
      rw [List.length_eq_zero_iff.1 h0] at hu
      simp at hu
    · refine ⟨⟨g, (i + 1) * 3, none⟩, by simp [h], fun W hW t u hu => ?_⟩
      rw [hnews, List.getElem?_drop, ← ht, List.getElem?_take] at hu
      split at hu
      · rw [Addr.add_lit, cell_of_row W g _ cur 36 (0, 0) (by rw [hW]; exact hg)]
        simpa using hu
      · cases hu
  have hspare : Hid (∀ W : World, W.heap = w.heap → ∀ t, t < news.length → (W.cell? ⟨g, 0 + i * 3 + t, none⟩).isSome = true ∧ W.frozen? ⟨g, 0 + i * 3 + t, none⟩ = false) := fun W hW t htl => by
    rw [hnl] at htl
    have hg' : W.heap[g]? = some (.cells cur 36 (0, 0)) := by rw [hW]; exact hg
    refine ⟨?_, frozen_of_row W g _ cur _ hg'⟩
    rw [cell_of_row W g _ cur _ (0, 0) hg', Array.getElem?_eq_getElem (by rw [hcs]; omega)]
    rfl
  have hcl : Hid (∀ W : World, W.heap[g]? = some (.cells L1.toArray 36 (0, 0)) → ∀ ty cc, (Builtin.clear_ #[22] ty #[.slice (some ⟨g, (i + (n - (i + 1))) * 3, none⟩) (n - (i + (n - (i + 1)))) cc]).run Try.prog W = .ok (.tuple #[]) (W.setRow g (spl L1 ((n - 1) * 3) [.int .i64 0, .slice none 0 0, .slice none 0 0]).toArray)) := fun W hW ty cc => by
    rw [show i + (n - (i + 1)) = n - 1 by omega, show n - (n - 1) = 1 by omega]
    exact run_clear_K W _ _ ty _ 3 Try.underlying22 hzv rfl (by simp [Value.cells, Value.oneCell']) g _ cc 36 L1.toArray hW (by rw [List.size_toArray, hL1l]; omega)
  have hfin : Hid (∀ (W : World), W.heap[g]? = some (.cells L1.toArray 36 (0, 0)) → (W.setRow g (spl L1 ((n - 1) * 3) [.int .i64 0, .slice none 0 0, .slice none 0 0]).toArray).ownsRow base 36 3 (.slice (some ⟨g, 0, none⟩) (n - 1) c) (n - 1) (xs.take (i * 3) ++ xs.drop ((i + 1) * 3))) := fun W hW => by
    refine ⟨by simp only [List.length_append, List.length_take, List.length_drop, hxl]; omega, .inr ⟨g, c, _, rfl, hbg, setRow_heap W g _ _ 36 _ hW, by omega, by unfold maxLen; omega, ?_, ?_⟩⟩
    · rw [List.size_toArray, length_spl _ _ _ (by rw [hL1l]; simp; omega), hL1l]
    · rw [hL1, hnews]
      exact del_lists hxl hi rfl (by rw [Array.length_toList, hcs]; omega) ht
  have hgw := Lib.hid hg
  have hnl' := Lib.hid hnl
  have h1n' := Lib.hid h1n
  have hsc' := Lib.hid hsc
  have hne : ¬ ((i : Int) = (i + 1 : Nat)) := by omega
  have hb1 : (i : Int) ≤ n := by omega
  have hb2 : ((i + 1 : Nat) : Int) ≤ n := by omega
  have hb3 : ((i + 1 : Nat) : Int) ≤ c := by omega
  have hb4 : (i : Int) ≤ c := by omega
  have hb5 : (i : Int) ≤ ((i + 1 : Nat) : Int) := by omega
  have hb6 : (n : Int) ≤ c := by omega
  have hb7 : (0 : Int) ≤ (i : Int) + 1 := by omega
  have hb8 : (i : Int) + 1 ≤ n := by omega
  have mixed : Try.prog.follows .mixedOrders = true := by kernel_rfl
  clear ho hnews hL1 hL1l hnl h1n h1x hsc hg hcs ht hxl hbg hz0 hzv
  go_enter Try.func32, Try.ntmps32
  go_wp2_with fail
  go_region_law_o (refine step_append_room rfl (.tmp 22) (.tmp 25) 22 rfl 36 i0 3 Try.underlying22 hi0 hz1 g 0 i c (by simp [Act.eval, Act.put]) A (n - (i + 1)) (c - (i + 1)) news (by simp [Act.eval, Act.put]) hnl'.out (hsrc.out w.drew rfl) h1n'.out (by omega) (hspare.out w.drew rfl) ?_; rw [hsc'.out w.drew rfl])
  have hg1 := setRow_heap w.drew g cur L1.toArray 36 (0, 0) hgw.out
  have hcv := hcl.out _ hg1 0 (c - (i + (n - (i + 1))))
  have HG := Lib.hid hg1
  clear hg1
  go_wp2_with (simp only [hcv])
  go_ret
  refine ⟨_, rfl, ?_, ((show w.grownBy w.drew (some g) from ⟨rfl, rfl, rfl, Nat.le_refl _, fun _ _ _ => rfl⟩).trans (setRow_grown rfl)).trans (setRow_grown rfl), rfl⟩
  have := hfin.out _ HG.out
  rw [show i + (n - (i + 1)) = n - 1 by omega]
  exact this
end Go.Proofs.Ytjcboeldmgmfcaa
end

/-
Package hand: Open, Get, Close.
-/
section
namespace Go.Proofs.Ytjcboeldmgmfcaa.A
open Go.RowKit

def freeId : List Hd → Int → Int
  | [], id => id
  | h :: l, id => freeId l (if h.id = id then id + 1 else id)
theorem freeId_app (l m : List Hd) (id : Int) : freeId (l ++ m) id = freeId m (freeId l id) := by
  induction l generalizing id with
  | nil => rfl
  | cons h l ih => exact ih _
theorem freeId_bd (l : List Hd) (id : Int) : id ≤ freeId l id ∧ freeId l id ≤ id + l.length := by
  induction l generalizing id with
  | nil => simp [freeId]
  | cons h l ih =>
    have := ih (if h.id = id then id + 1 else id)
    simp only [freeId, List.length_cons]
    split <;> rename_i e <;> simp only [e, if_true, if_false] at this <;> omega
def openH (l : List Hd) : List Hd × Int × Int :=
  if !hdsOk l then ([], 0, 1) else if 3 ≤ l.length then ([], 0, 19) else (l.take (freeId l 0).toNat ++ [⟨freeId l 0, [], []⟩] ++ l.drop (freeId l 0).toNat, freeId l 0, 0)
theorem bltAll {s : List Nat} {m : Nat} (h : s.all (fun x => Nat.blt x m) = true) : ∀ x ∈ s, x < m := fun x hx => by
  have := List.all_eq_true.1 h x hx
  simpa using this
theorem hinsert_own (es : List (List AV)) (e : List AV) (n i : Nat) (hl : n = es.length) (hi : i ≤ n) (hn : n ≤ 1000000) :
    ACalls Try.prog false 24 [.ow 0 n, .v (.int .i64 i), .ow 1 1] [.row 36 3 es, .row 36 3 [e]] fun r H => r = .ow 2 (n + 1) ∧ H = [.dead, .row 36 3 [e], .row 36 3 (es.take i ++ [e] ++ es.drop i)] := by
  subst hl
  exact ACalls.insert ⟨_, Try.func24, rfl, rfl⟩ (fun v n i xs ys vb base w ho vc vcur hb hbt hy h1x h1y hne hi hn hbase => insH_any v n i xs ys vb base w ho vc vcur hb hbt hy h1x h1y hne hi hn hbase) es e i hi hn
theorem tp_sub {l m : List AV} (h : SubL l m) (c : Ctx) (u : Value) (hr : Rd (.tp l) c u) : Rd (.tp m) c u := by
  simp only [Rd] at hr ⊢
  obtain ⟨xs, rfl, h1⟩ := hr
  exact ⟨xs, rfl, h.rdl h1⟩
theorem mid_sub {A B : List (List AV)} {e e' : List AV} (h : SubL e e') (i : Nat) : SubL ((A ++ [e] ++ B).getD i []) ((A ++ [e'] ++ B).getD i []) := by
  have e1 : ∀ x : List AV, (A ++ [x] ++ B).getD i [] = if i < A.length then A.getD i [] else (x :: B).getD (i - A.length) [] := fun x => by
    rw [List.append_assoc]
    split
    · rename_i h1; exact getD_app h1
    · rename_i h1; exact getD_appR (by omega)
  rw [e1, e1]
  split
  · exact SubL.refl _
  · cases i - A.length with
    | zero => exact h
    | succ j => exact SubL.refl _
theorem nil_hds (c : Ctx) (u : Value) (h : Rd (.v (.slice none 0 0)) c u) : Rd (hdsA []) c u := nil_sl 3 _ c u h
set_option maxRecDepth 100000 in
theorem hopen_fn (l : List Hd) (hl : l.length ≤ 1000) (hs : ∀ h ∈ l, HdB h) : Fn Try.prog 8 [hdsA l] fun r => r = .tp [hdsA (openH l).1, .v (.int .i64 (openH l).2.1), .v (.int .i64 (openH l).2.2)] := by
  have hc := hcheck_fn l hl (fun h hh => ⟨(hs h hh).1, (hs h hh).2.1⟩)
  cases hok : hdsOk l with
  | false =>
    rw [hok] at hc
    refine Fn.of tys_ok Try.func8 rfl rfl (Nat.le_of_ble_eq_true rfl) ?_
    conv => whnf
    refine Fn.closed (hc) rfl ?_
    rintro _ rfl
    conv => whnf
    exact ⟨.tp [hdsA [], .v (.int .i64 0), .v (.int .i64 1)], tp_sub ⟨nil_hds, fun _ _ h => h, fun _ _ h => h, trivial⟩, by rw [openH, hok]; rfl⟩
  | true =>
    rw [hok] at hc
    refine Fn.of tys_ok Try.func8 rfl rfl (Nat.le_of_ble_eq_true rfl) ?_
    conv => whnf
    refine Fn.closed (hc) rfl ?_
    rintro _ rfl
    conv => whnf
    refine boolK_intro (fun h3 => ?_) (fun h3 => ?_) <;> simp only [decide_eq_true_eq, decide_eq_false_iff_not] at h3 <;> conv => whnf
    · exact ⟨.tp [hdsA [], .v (.int .i64 0), .v (.int .i64 19)], tp_sub ⟨nil_hds, fun _ _ h => h, fun _ _ h => h, trivial⟩, by rw [openH, hok, if_neg (by simp), if_pos (by omega)]⟩
    refine aLoop.rule Nat (fun k => ([(0, hdsA l), (3, .v (.int .i64 (freeId (l.take k) 0))), (15, hdsA l), (16, .v (.int .i64 l.length)), (17, .v (.int .i64 k))], [])) (fun k => k ≤ l.length) (fun k => l.length - k) 0 (Nat.zero_le _) ⟨[], trivial, ⟨rfl, rfl, rfl, rfl, rfl, trivial⟩, trivial, rfl, rfl, rfl⟩ ?_
    rintro k hk
    conv => whnf
    refine boolI (fun h2 => ?_) (fun h2 => ?_) <;> (repeat rw [Int.toNat_natCast] at h2) <;> conv => whnf
    · have hk' : k < l.length := by omega
      have hst : freeId (l.take (k + 1)) 0 = if (l.getD k (⟨0, [], []⟩ : Hd)).id = freeId (l.take k) 0 then freeId (l.take k) 0 + 1 else freeId (l.take k) 0 := by
        rw [List.take_succ_eq_append_getElem hk', freeId_app]
        simp only [freeId, List.getD_eq_getElem?_getD, List.getElem?_eq_getElem hk', Option.getD_some]
      have hbd := freeId_bd (l.take k) 0
      rw [List.length_take] at hbd
      refine aSeq.go ?_
      conv => whnf
      refine ⟨by first | omega | (refine ⟨rfl, ?_, ?_⟩ <;> first | omega | (simp only [List.length_map]; done) | (simp only [List.length_map]; omega)) | (simp only [List.length_map]; omega), ?_⟩
      conv => whnf
      refine boolK_intro (fun h4 => ?_) (fun h4 => ?_) <;> (repeat rw [Int.toNat_natCast] at h4) <;> conv => whnf
      · refine ⟨k + 1, by omega, by omega, [], trivial, ⟨rfl, ?_, rfl, rfl, wsucc (by omega), trivial⟩, trivial, rfl, rfl, rfl⟩
        rw [hst, if_pos (by simpa using h4)]
        show AV.v (.int .i64 (IntKind.i64.wrap (freeId (l.take k) 0 + 1))) = _
        rw [wi (by omega)]
      · refine ⟨k + 1, by omega, by omega, [], trivial, ⟨rfl, ?_, rfl, rfl, wsucc (by omega), trivial⟩, trivial, rfl, rfl, rfl⟩
        rw [hst, if_neg (by simpa using h4)]; rfl
    · have e : k = l.length := by omega
      subst e
      rw [List.take_length]
      have hbd := freeId_bd l 0
      obtain ⟨p, hp⟩ : ∃ p : Nat, freeId l 0 = p := ⟨(freeId l 0).toNat, by omega⟩
      rw [hp]
      conv => whnf
      refine ACalls.beside (htwins_own l hl hs) rfl ?_
      rintro _ _ ⟨rfl, rfl⟩
      conv => whnf
      refine ACalls.frame [0, 1] (hinsert_own (l.map hdC) [.v (.int .i64 p), .v (.slice none 0 0), .v (.slice none 0 0)] l.length p (by simp) (by omega) (by omega)) rfl rfl rfl rfl (by decide) (bltAll rfl) ⟨rfl, rfl, trivial⟩ ?_
      rintro _ _ ⟨rfl, rfl⟩
      conv => whnf
      have e2 : (openH l) = (l.take p ++ [⟨p, [], []⟩] ++ l.drop p, (p : Int), 0) := by rw [openH, hok, if_neg (by simp), if_neg (by omega), hp, Int.toNat_natCast]
      have hlen : (l.take p ++ [(⟨p, [], []⟩ : Hd)] ++ l.drop p).length = l.length + 1 := by simp only [List.length_append, List.length_take, List.length_drop, List.length_cons, List.length_nil]; omega
      refine And.intro (by simp only [List.length_append, List.length_take, List.length_drop, List.length_cons, List.length_nil, List.length_map]; omega) ?_
      conv => whnf
      refine ⟨.tp [hdsA (l.take p ++ [⟨p, [], []⟩] ++ l.drop p), .v (.int .i64 p), .v (.int .i64 0)], tp_sub ⟨fun c u h => Rd.sub hlen.symm (fun i hi => ?_) h, fun _ _ h => h, fun _ _ h => h, trivial⟩, by rw [e2]⟩
      rw [← map_getD (f := hdC) (d := ⟨0, [], []⟩) (e := []) (by omega), List.map_append, List.map_append, List.map_take, List.map_drop]
      exact mid_sub (e := [.v (.int .i64 p), .v (.slice none 0 0), .v (.slice none 0 0)]) (e' := hdC ⟨p, [], []⟩) ⟨fun _ _ h => h, fun c u h => nil_sl 1 _ c u h, fun c u h => nil_sl 1 _ c u h, trivial⟩ i
/-- Where the handle of a number is. -/
def atH (l : List Hd) (id : Int) : Nat := l.findIdx fun h => h.id == id
def hasH (l : List Hd) (id : Int) : Bool := l.any fun h => h.id == id
theorem hat_fn (l : List Hd) (id : Int) (hl : l.length ≤ 1000000) : Fn Try.prog 26 [hdsA l, .v (.int .i64 id)] fun r => r = .tp [.v (.int .i64 (if hasH l id then (atH l id : Nat) else 0 : Int)), .v (.bool (hasH l id))] := by
  refine (at_fn l id hl).mono ?_
  rintro _ rfl
  congr 4
  cases h : hasH l id with
  | true => rw [(ixI_lt h).1]; simp only [if_true]; exact Int.max_eq_left (by omega)
  | false => rw [ixI_none h]; rfl
theorem atH_lt {l : List Hd} {id : Int} (h : hasH l id = true) : atH l id < l.length := (ixI_lt h).2
def closeH (l : List Hd) (id : Int) : List Hd × Hd × Int :=
  if !hdsOk l then ([], (⟨0, [], []⟩ : Hd), 1) else if !hasH l id then ([], (⟨0, [], []⟩ : Hd), 18) else (l.take (atH l id) ++ l.drop (atH l id + 1), l.getD (atH l id) (⟨0, [], []⟩ : Hd), 0)
theorem hdelete_own (es : List (List AV)) (n i : Nat) (hl : n = es.length) (hi : i < n) (hn : n ≤ 1000000) :
    ACalls Try.prog false 32 [.ow 0 n, .v (.int .i64 i), .v (.int .i64 (i + 1 : Nat))] [.row 36 3 es] fun r H => r = .ow 1 (n - 1) ∧ H = [.dead, .row 36 3 (es.take i ++ es.drop (i + 1))] := by
  subst hl
  exact ACalls.delete ⟨_, Try.func32, rfl, rfl⟩ (fun g c n i xs base w ho h1x hi hn => delH g c n i xs base w ho h1x hi hn) es i hi hn
set_option maxRecDepth 100000 in
theorem hclose_fn (l : List Hd) (id : Int) (hl : l.length ≤ 1000) (hs : ∀ h ∈ l, HdB h) : Fn Try.prog 11 [hdsA l, .v (.int .i64 id)] fun r => r = .tp [hdsA (closeH l id).1, .ag (hdC (closeH l id).2.1), .v (.int .i64 (closeH l id).2.2)] := by
  have hc := hcheck_fn l hl (fun h hh => ⟨(hs h hh).1, (hs h hh).2.1⟩)
  have z0 : SubL [.v (.int .i64 0), .v (.slice none 0 0), .v (.slice none 0 0)] (hdC (⟨0, [], []⟩ : Hd)) := ⟨fun _ _ h => h, fun c u h => nil_sl 1 _ c u h, fun c u h => nil_sl 1 _ c u h, trivial⟩
  cases hok : hdsOk l with
  | false =>
    rw [hok] at hc
    refine Fn.of tys_ok Try.func11 rfl rfl (Nat.le_of_ble_eq_true rfl) ?_
    conv => whnf
    refine Fn.closed (hc) rfl ?_
    rintro _ rfl
    conv => whnf
    exact ⟨.tp [hdsA [], .ag (hdC (⟨0, [], []⟩ : Hd)), .v (.int .i64 1)], tp_sub ⟨nil_hds, ag_sub z0, fun _ _ h => h, trivial⟩, by rw [closeH, hok]; rfl⟩
  | true =>
    rw [hok] at hc
    have ha := hat_fn l id (by omega)
    cases hh : hasH l id with
    | false =>
      rw [hh] at ha
      refine Fn.of tys_ok Try.func11 rfl rfl (Nat.le_of_ble_eq_true rfl) ?_
      conv => whnf
      refine Fn.closed (hc) rfl ?_
      rintro _ rfl
      conv => whnf
      refine Fn.closed (ha) rfl ?_
      rintro _ rfl
      conv => whnf
      exact ⟨.tp [hdsA [], .ag (hdC (⟨0, [], []⟩ : Hd)), .v (.int .i64 18)], tp_sub ⟨nil_hds, ag_sub z0, fun _ _ h => h, trivial⟩, by rw [closeH, hok, hh]; rfl⟩
    | true =>
      rw [hh, if_pos rfl] at ha
      have hlt := atH_lt hh
      obtain ⟨p, hp⟩ : ∃ p, p = atH l id := ⟨_, rfl⟩
      rw [← hp] at ha hlt
      have hE : (l.map hdC).getD p [] = hdC (l.getD p (⟨0, [], []⟩ : Hd)) := map_getD hlt
      refine Fn.of tys_ok Try.func11 rfl rfl (Nat.le_of_ble_eq_true rfl) ?_
      conv => whnf
      refine Fn.closed (hc) rfl ?_
      rintro _ rfl
      conv => whnf
      refine Fn.closed (ha) rfl ?_
      rintro _ rfl
      conv => whnf
      refine ACalls.beside (htwins_own l hl hs) rfl ?_
      rintro _ _ ⟨rfl, rfl⟩
      conv => whnf
      refine And.intro ⟨by simp, by simpa using hlt⟩ ?_
      conv => whnf
      refine And.intro ⟨rfl, by simp, by simpa using hlt⟩ ?_
      conv => whnf
      rw [Int.toNat_natCast, hE]
      conv => whnf
      have w1 : IntKind.i64.wrap ((p : Int) + 1) = ((p + 1 : Nat) : Int) := by rw [wi (by omega)]; rfl
      apply aDraw.treeM (32 + 2 ^ 132) tys_ok mixed (.one 0 (.one 1 (.one 2 (.one 3 (.two 4 (.one 6 (.one 5 (.one 7 (.one 8 .fin)))) 5 (.one 4 (.one 6 (.one 7 (.one 8 .fin))))))))) [4, 6, 28, 29, 30, 31, 32, 33] (by kernel_rfl)
      · conv => whnf
        refine And.intro ?_ ?_
        · conv => whnf
          (rw [w1]; refine ACalls.frame [1] (hdelete_own (l.map hdC) l.length p (by simp) hlt (by omega)) rfl rfl rfl rfl (by decide) (bltAll rfl) ⟨rfl, trivial⟩ ?_; rintro _ _ ⟨rfl, rfl⟩)
          conv => whnf
          try (refine And.intro ⟨rfl, by first | rfl | (simp; done) | (simp; omega), by first | omega | (simp; omega)⟩ ?_; conv => whnf)
          exact ⟨rfl, rfl⟩
        · conv => whnf
          (rw [w1]; refine ACalls.frame [1] (hdelete_own (l.map hdC) l.length p (by simp) hlt (by omega)) rfl rfl rfl rfl (by decide) (bltAll rfl) ⟨rfl, trivial⟩ ?_; rintro _ _ ⟨rfl, rfl⟩)
          conv => whnf
          try (refine And.intro ⟨rfl, by first | rfl | (simp; done) | (simp; omega), by first | omega | (simp; omega)⟩ ?_; conv => whnf)
          exact ⟨rfl, rfl⟩
      conv => whnf
      refine And.intro (by simp only [List.length_append, List.length_take, List.length_drop, List.length_map]; omega) ?_
      conv => whnf
      have hlen : (l.take p ++ l.drop (p + 1)).length = l.length - 1 := by simp only [List.length_append, List.length_take, List.length_drop]; omega
      refine ⟨.tp [hdsA (l.take p ++ l.drop (p + 1)), .ag (hdC (l.getD p (⟨0, [], []⟩ : Hd))), .v (.int .i64 0)], tp_sub ⟨fun c u h => Rd.sub hlen.symm (fun i hi => ?_) h, fun _ _ h => h, fun _ _ h => h, trivial⟩, by rw [closeH, hok, hh, ← hp]; rfl⟩
      rw [← map_getD (f := hdC) (d := ⟨0, [], []⟩) (e := []) (by omega), List.map_append, List.map_take, List.map_drop]
      exact SubL.refl _
def getH (l : List Hd) (id lba : Int) : List UInt8 × Bool × Int :=
  if !hdsOk l then ([], false, 1) else if !hasH l id then ([], false, 18) else
    let h := l.getD (atH l id) (⟨0, [], []⟩ : Hd)
    if decide (lb h.lbas lba < h.lbas.length) && (h.lbas.getD (lb h.lbas lba) 0 == lba) then (h.blocks.getD (lb h.lbas lba) [], true, 0) else ([], false, 0)
def by1 (x : UInt8) : List AV := [.v (.int .u8 x.toNat)]
theorem getH_cases {l : List Hd} {id lba : Int} (hok : hdsOk l = true) (hh : hasH l id = true) : getH l id lba = if decide (lb (l.getD (atH l id) (⟨0, [], []⟩ : Hd)).lbas lba < (l.getD (atH l id) (⟨0, [], []⟩ : Hd)).lbas.length) && ((l.getD (atH l id) (⟨0, [], []⟩ : Hd)).lbas.getD (lb (l.getD (atH l id) (⟨0, [], []⟩ : Hd)).lbas lba) 0 == lba) then ((l.getD (atH l id) (⟨0, [], []⟩ : Hd)).blocks.getD (lb (l.getD (atH l id) (⟨0, [], []⟩ : Hd)).lbas lba) [], true, 0) else ([], false, 0) := by
  simp only [getH, hok, hh]; rfl
theorem hdOk_of {l : List Hd} (hok : hdsOk l = true) {k : Nat} (hk : k < l.length) : hdOk (l.getD k (⟨0, [], []⟩ : Hd)) = true := by
  simp only [hdsOk, Bool.and_eq_true] at hok
  exact List.all_eq_true.1 hok.2.2.2 _ (getD_mem hk)
theorem hdOk_iff {h : Hd} : hdOk h = true ↔ h.lbas.length = h.blocks.length ∧ h.lbas.length ≤ 4 ∧ ris h.lbas = true ∧ ∀ b ∈ h.blocks, b.length = 8 := by
  simp [hdOk, List.all_eq_true]
set_option maxRecDepth 100000 in
theorem hget_none (l : List Hd) (id lba : Int) (hl : l.length ≤ 1000) (hs : ∀ h ∈ l, HdB h) (hno : (getH l id lba).2.1 = false) : Fn Try.prog 10 [hdsA l, .v (.int .i64 id), .v (.int .i64 lba)] fun r =>
    r = .tp [.v (.slice none 0 0), .v (.bool false), .v (.int .i64 (getH l id lba).2.2)] := by
  have hc := hcheck_fn l hl (fun h hh => ⟨(hs h hh).1, (hs h hh).2.1⟩)
  cases hok : hdsOk l with
  | false =>
    rw [hok] at hc
    refine Fn.of tys_ok Try.func10 rfl rfl (Nat.le_of_ble_eq_true rfl) ?_
    conv => whnf
    refine Fn.closed (hc) rfl ?_
    rintro _ rfl
    conv => whnf
    exact ⟨_, fun _ _ h => h, by rw [getH, hok]; rfl⟩
  | true =>
    rw [hok] at hc
    have ha := hat_fn l id (by omega)
    cases hh : hasH l id with
    | false =>
      rw [hh] at ha
      refine Fn.of tys_ok Try.func10 rfl rfl (Nat.le_of_ble_eq_true rfl) ?_
      conv => whnf
      refine Fn.closed (hc) rfl ?_
      rintro _ rfl
      conv => whnf
      refine Fn.closed (ha) rfl ?_
      rintro _ rfl
      conv => whnf
      exact ⟨_, fun _ _ h => h, by rw [getH, hok, hh]; rfl⟩
    | true =>
      rw [hh, if_pos rfl] at ha
      have hlt := atH_lt hh
      rw [getH_cases hok hh] at hno ⊢
      obtain ⟨p, hp⟩ : ∃ p, p = atH l id := ⟨_, rfl⟩
      rw [← hp] at ha hlt hno ⊢
      have ho := hdOk_iff.1 (hdOk_of hok hlt)
      obtain ⟨b, hb⟩ : ∃ b, b = (decide (lb (l.getD p (⟨0, [], []⟩ : Hd)).lbas lba < (l.getD p (⟨0, [], []⟩ : Hd)).lbas.length) && ((l.getD p (⟨0, [], []⟩ : Hd)).lbas.getD (lb (l.getD p (⟨0, [], []⟩ : Hd)).lbas lba) 0 == lba)) := ⟨_, rfl⟩
      have hbs := bs_fn (l.getD p (⟨0, [], []⟩ : Hd)).lbas lba (by omega) ho.2.2.1
      rw [← hb] at hbs hno ⊢
      cases b with
      | true => cases hno
      | false =>
        refine Fn.of tys_ok Try.func10 rfl rfl (Nat.le_of_ble_eq_true rfl) ?_
        conv => whnf
        refine Fn.closed (hc) rfl ?_
        rintro _ rfl
        conv => whnf
        refine Fn.closed (ha) rfl ?_
        rintro _ rfl
        conv => whnf
        refine ⟨by first | omega | (refine ⟨rfl, ?_, ?_⟩ <;> first | omega | (simp only [List.length_map]; done) | (simp only [List.length_map]; omega)) | (simp only [List.length_map]; omega), ?_⟩
        conv => whnf
        rw [Int.toNat_natCast]
        refine Fn.closed (hbs) rfl ?_
        rintro _ rfl
        conv => whnf
        exact ⟨_, fun _ _ h => h, rfl⟩
set_option maxRecDepth 100000 in
theorem bclone_own (b : List UInt8) (hb : b.length ≤ 1000000000) : ACalls Try.prog false 29 [bA b] [] fun r H => r = .ow 0 b.length ∧ H = [.row 5 1 (b.map by1)] := by
  refine ACalls.ofC tys_ok Try.func29 rfl rfl (Nat.le_of_ble_eq_true rfl) ?_
  conv => whnf
  refine And.intro (fun h => ?_) ?_
  · conv => whnf
    have h0 := List.length_eq_zero_iff.1 h
    subst h0
    exact ⟨_, .ow 0 0, [.row 5 1 []], fun _ _ h => h, Wk.conv ⟨[(0, 5, 1)], ⟨rfl, rfl, trivial⟩, ⟨rfl, trivial⟩, ⟨rfl, trivial⟩, rfl, rfl, rfl⟩, rfl, rfl⟩
  · conv => whnf
    refine And.intro ⟨rfl, by omega⟩ ?_
    conv => whnf
    exact ⟨.ow 0 b.length, .ow 0 b.length, [.row 5 1 (b.map by1)], fun _ _ h => by rwa [Nat.zero_add] at h, Wk.conv ⟨[], trivial, ⟨rfl, trivial⟩, ⟨(congrArg (AB.row _ _) (range_map (d := 0) by1 b)).symm, trivial⟩, rfl, rfl, rfl⟩, rfl, rfl⟩
set_option maxRecDepth 100000 in
theorem hget_own (l : List Hd) (id lba : Int) (hl : l.length ≤ 1000) (hs : ∀ h ∈ l, HdB h) (hyes : (getH l id lba).2.1 = true) : ACalls Try.prog false 10 [hdsA l, .v (.int .i64 id), .v (.int .i64 lba)] [] fun r H =>
    r = .tp [.ow 0 (getH l id lba).1.length, .v (.bool true), .v (.int .i64 0)] ∧ H = [.row 5 1 ((getH l id lba).1.map by1)] := by
  have hc := hcheck_fn l hl (fun h hh => ⟨(hs h hh).1, (hs h hh).2.1⟩)
  cases hok : hdsOk l with
  | false => rw [getH, hok] at hyes; cases hyes
  | true =>
    rw [hok] at hc
    have ha := hat_fn l id (by omega)
    cases hh : hasH l id with
    | false => rw [getH, hok, hh] at hyes; cases hyes
    | true =>
      rw [hh, if_pos rfl] at ha
      have hlt := atH_lt hh
      rw [getH_cases hok hh] at hyes ⊢
      obtain ⟨p, hp⟩ : ∃ p, p = atH l id := ⟨_, rfl⟩
      rw [← hp] at ha hlt hyes ⊢
      have ho := hdOk_iff.1 (hdOk_of hok hlt)
      obtain ⟨b, hb⟩ : ∃ b, b = (decide (lb (l.getD p (⟨0, [], []⟩ : Hd)).lbas lba < (l.getD p (⟨0, [], []⟩ : Hd)).lbas.length) && ((l.getD p (⟨0, [], []⟩ : Hd)).lbas.getD (lb (l.getD p (⟨0, [], []⟩ : Hd)).lbas lba) 0 == lba)) := ⟨_, rfl⟩
      have hbs := bs_fn (l.getD p (⟨0, [], []⟩ : Hd)).lbas lba (by omega) ho.2.2.1
      rw [← hb] at hbs hyes ⊢
      cases b with
      | false => cases hyes
      | true =>
        have hq : lb (l.getD p (⟨0, [], []⟩ : Hd)).lbas lba < (l.getD p (⟨0, [], []⟩ : Hd)).blocks.length := by
          have := hb.symm
          simp only [Bool.and_eq_true, decide_eq_true_eq] at this
          omega
        obtain ⟨q, hq2⟩ : ∃ q, q = lb (l.getD p (⟨0, [], []⟩ : Hd)).lbas lba := ⟨_, rfl⟩
        rw [← hq2] at hbs hq ⊢
        refine ACalls.ofC tys_ok Try.func10 rfl rfl (Nat.le_of_ble_eq_true rfl) ?_
        conv => whnf
        refine Fn.closed (hc) rfl ?_
        rintro _ rfl
        conv => whnf
        refine Fn.closed (ha) rfl ?_
        rintro _ rfl
        conv => whnf
        refine ⟨by first | omega | (refine ⟨rfl, ?_, ?_⟩ <;> first | omega | (simp only [List.length_map]; done) | (simp only [List.length_map]; omega)) | (simp only [List.length_map]; omega), ?_⟩
        conv => whnf
        rw [Int.toNat_natCast]
        refine Fn.closed (hbs) rfl ?_
        rintro _ rfl
        conv => whnf
        refine ⟨by first | omega | (refine ⟨rfl, ?_, ?_⟩ <;> first | omega | (simp only [List.length_map]; done) | (simp only [List.length_map]; omega)) | (simp only [List.length_map]; omega), ?_⟩
        conv => whnf
        rw [Int.toNat_natCast]
        conv => whnf
        refine ⟨by first | omega | (refine ⟨rfl, ?_, ?_⟩ <;> first | omega | (simp only [List.length_map]; done) | (simp only [List.length_map]; omega)) | (simp only [List.length_map]; omega), ?_⟩
        conv => whnf
        rw [Int.toNat_natCast]
        conv => whnf
        have h8 : ((l.getD p (⟨0, [], []⟩ : Hd)).blocks.getD q []).length = 8 := ho.2.2.2 _ (getD_mem hq)
        refine ACalls.beside (bclone_own ((l.getD p (⟨0, [], []⟩ : Hd)).blocks.getD q []) (by omega)) rfl ?_
        rintro _ _ ⟨rfl, rfl⟩
        conv => whnf
        exact ⟨_, .tp [.ow 0 ((l.getD p (⟨0, [], []⟩ : Hd)).blocks.getD q []).length, .v (.bool true), .v (.int .i64 0)], [.row 5 1 (((l.getD p (⟨0, [], []⟩ : Hd)).blocks.getD q []).map by1)], fun _ _ h => h, Wk.conv ⟨[], trivial, ⟨rfl, trivial⟩, ⟨rfl, trivial⟩, rfl, rfl, rfl⟩, rfl, rfl⟩
end Go.Proofs.Ytjcboeldmgmfcaa.A
end

/-
Package hand: Put.
-/
section
namespace Go.Proofs.Ytjcboeldmgmfcaa.A
open Go.RowKit

def wrH (h : Hd) (lba : Int) (b : List UInt8) : Hd :=
  if decide (lb h.lbas lba < h.lbas.length) && (h.lbas.getD (lb h.lbas lba) 0 == lba) then ⟨h.id, h.lbas, h.blocks.set (lb h.lbas lba) b⟩
  else ⟨h.id, h.lbas.take (lb h.lbas lba) ++ [lba] ++ h.lbas.drop (lb h.lbas lba), h.blocks.take (lb h.lbas lba) ++ [b] ++ h.blocks.drop (lb h.lbas lba)⟩
def fullH (h : Hd) (lba : Int) : Bool := decide (4 ≤ h.lbas.length) && !h.lbas.any fun y => lba == y
def putHd (l : List Hd) (id lba : Int) (b : List UInt8) : List Hd × Int :=
  if !hdsOk l then ([], 1) else if !hasH l id then ([], 18) else if decide (lba < 0) || decide (b.length ≠ 8) then ([], 1) else
    if fullH (l.getD (atH l id) ⟨0, [], []⟩) lba then ([], 20) else (l.set (atH l id) (wrH (l.getD (atH l id) ⟨0, [], []⟩) lba b), 0)
theorem iinsert_own (es : List (List AV)) (e : List AV) (n i : Nat) (hl : n = es.length) (hi : i ≤ n) (hn : n ≤ 1000000) :
    ACalls Try.prog false 30 [.ow 0 n, .v (.int .i64 i), .ow 1 1] [.row 3 1 es, .row 3 1 [e]] fun r H => r = .ow 2 (n + 1) ∧ H = [.dead, .row 3 1 [e], .row 3 1 (es.take i ++ [e] ++ es.drop i)] := by
  subst hl
  exact ACalls.insert ⟨_, Try.func30, rfl, rfl⟩ (fun v n i xs ys vb base w ho vc vcur hb hbt hy h1x h1y hne hi hn hbase => by simpa only [Nat.mul_one] using insI_any v n i xs ys vb base w ho vc vcur hb hbt hy h1x h1y hne hi hn hbase) es e i hi hn
theorem binsert_own (es : List (List AV)) (e : List AV) (n i : Nat) (hl : n = es.length) (hi : i ≤ n) (hn : n ≤ 1000000) :
    ACalls Try.prog false 31 [.ow 0 n, .v (.int .i64 i), .ow 1 1] [.row 23 1 es, .row 23 1 [e]] fun r H => r = .ow 2 (n + 1) ∧ H = [.dead, .row 23 1 [e], .row 23 1 (es.take i ++ [e] ++ es.drop i)] := by
  subst hl
  exact ACalls.insert ⟨_, Try.func31, rfl, rfl⟩ (fun v n i xs ys vb base w ho vc vcur hb hbt hy h1x h1y hne hi hn hbase => by simpa only [Nat.mul_one] using insB_any v n i xs ys vb base w ho vc vcur hb hbt hy h1x h1y hne hi hn hbase) es e i hi hn
theorem wk1 {t : TypeId} {sz : Nat} {es : List (List AV)} {H : List AB} (h : H[0]? = some (.row t sz es)) : wkH [.row t sz es] H := by
  cases H with
  | nil => cases h
  | cons y r => simp at h; subst h; exact ⟨rfl, trivial⟩
/-- A handle in rows of the caller's own among handles: all given up for reading. -/
theorem hd_done {H : List AB} {l : List Hd} {p : Nat} {h' : Hd} {a b m : Nat} (hp : p < l.length) (hab : ¬ b = a) (hb0 : ¬ 0 = b) (h0 : H[0]? = some (.rowo 36 3 ((l.map hdC).set p (owC h' a b)) m))
    (ha : H[a]? = some (.row 3 1 (h'.lbas.map icC))) (hb : H[b]? = some (.row 23 1 (h'.blocks.map bcC))) : ∃ H', ConvH H H' ∧ H'[0]? = some (.row 36 3 ((l.set p h').map hdC)) := by
  have hl0 : 0 < H.length := (List.getElem?_eq_some_iff.1 h0).1
  have c1 := ConvH.sealIn 0 a h0 ha rfl
  have g1 : ∀ {x : AB}, ((H.set a .dead).set 0 x)[0]? = some x := fun {x} => by rw [List.getElem?_set_self (by simpa using hl0)]
  have g2 : ∀ {x : AB}, ((H.set a .dead).set 0 x)[b]? = some (.row 23 1 (h'.blocks.map bcC)) := fun {x} => by
    rw [List.getElem?_set_ne hb0, List.getElem?_set_ne (Ne.symm hab)]; exact hb
  have g3 : ∀ {x y : AB}, ((((H.set a .dead).set 0 x).set b .dead).set 0 y)[0]? = some y := fun {x y} => by rw [List.getElem?_set_self (by simpa using hl0)]
  have hM : (l.set p h').map hdC = (l.map hdC).set p (hdC h') := List.map_set
  refine ⟨_, c1.trans (ConvH.trans (ConvH.sealIn 0 b g1 g2 rfl) (ConvH.trans (ConvH.subRowo g3 (es' := (l.set p h').map hdC) (m' := 0) (by simp) (fun j => ?_) (hd_lt _)) (ConvH.row (k := 0) (List.getElem?_set_self (by simpa using hl0)) (hd_lt _)))), List.getElem?_set_self (by simpa using hl0)⟩
  · rw [hM, ← List.set_set (a := hdC h') (b := owC h' a b)]
    refine seal_set (by simpa using hp) (fun j hj => ?_) ?_ j
    · rw [set_getD_ne (Ne.symm hj)]
      by_cases hj2 : j < l.length
      · rw [map_getD (d := ⟨0, [], []⟩) hj2]; exact SubL.refl _
      · rw [show (l.map hdC).getD j [] = [] by rw [List.getD_eq_getElem?_getD, List.getElem?_eq_none (by simpa using hj2)]; rfl]; trivial
    · rw [set_getD_eq (by simpa using hp)]
      exact hd_seal hab h'
theorem wk_done {H : List AB} {y : AV} {t : TypeId} {sz : Nat} {es : List (List AV)} (h : ∃ H', ConvH H H' ∧ H'[0]? = some (.row t sz es)) (hy : y.lt 1 = true) : WkC 0 [(0, y)] H [(0, y)] [.row t sz es] := by
  obtain ⟨H', c1, c2⟩ := h
  exact ⟨H', c1, [], trivial, ⟨rfl, trivial⟩, wkH_o (wk1 c2), by show (y.lt 1 && true) = true; rw [hy]; rfl, rfl, rfl⟩
set_option maxRecDepth 100000 in
theorem hput_own (l : List Hd) (id lba : Int) (b : List UInt8) (hl : l.length ≤ 1000) (hs : ∀ h ∈ l, HdB h) (hok : hdsOk l = true) (hh : hasH l id = true) (h0 : ¬ lba < 0) (h8 : b.length = 8) (hf : fullH (l.getD (atH l id) ⟨0, [], []⟩) lba = false) :
    ACalls Try.prog false 9 [hdsA l, .v (.int .i64 id), .v (.int .i64 lba), bA b] [] fun r H => r = .tp [.ow 0 l.length, .v (.int .i64 0)] ∧ H = [.row 36 3 ((l.set (atH l id) (wrH (l.getD (atH l id) ⟨0, [], []⟩) lba b)).map hdC)] := by
  have hc := hcheck_fn l hl (fun h hh => ⟨(hs h hh).1, (hs h hh).2.1⟩)
  rw [hok] at hc
  have ha := hat_fn l id (by omega)
  rw [hh, if_pos rfl] at ha
  have hlt := atH_lt hh
  obtain ⟨p, hp⟩ : ∃ p, p = atH l id := ⟨_, rfl⟩
  rw [← hp] at ha hlt hf ⊢
  have ho := hdOk_iff.1 (hdOk_of hok hlt)
  have hfu := full_fn (l.getD p ⟨0, [], []⟩) lba (by omega)
  rw [show (decide (4 ≤ (l.getD p ⟨0, [], []⟩).lbas.length) && !(l.getD p ⟨0, [], []⟩).lbas.any fun y => lba == y) = false from hf] at hfu
  obtain ⟨d, hd⟩ : ∃ d, d = (decide (lb (l.getD p ⟨0, [], []⟩).lbas lba < (l.getD p ⟨0, [], []⟩).lbas.length) && ((l.getD p ⟨0, [], []⟩).lbas.getD (lb (l.getD p ⟨0, [], []⟩).lbas lba) 0 == lba)) := ⟨_, rfl⟩
  have hbs := bs_fn (l.getD p ⟨0, [], []⟩).lbas lba (by omega) ho.2.2.1
  have hq : lb (l.getD p ⟨0, [], []⟩).lbas lba ≤ (l.getD p ⟨0, [], []⟩).lbas.length := List.countP_le_length
  rw [← hd] at hbs
  have hbs := hbs.sub (args := [.sl 1 (l.getD p ⟨0, [], []⟩).lbas.length fun i => ((l.getD p ⟨0, [], []⟩).lbas.map icC).getD i [], .v (.int .i64 lba)]) ⟨(ri_eq _).1, fun _ _ h => h, trivial⟩
  rw [wrH, ← hd]
  obtain ⟨q, hq2⟩ : ∃ q, q = lb (l.getD p ⟨0, [], []⟩).lbas lba := ⟨_, rfl⟩
  rw [← hq2] at hbs hq ⊢
  have hE : ((l.map hdC).set p (owC (l.getD p ⟨0, [], []⟩) 4 5)).getD p [] = owC (l.getD p ⟨0, [], []⟩) 4 5 := set_getD_eq (by simpa using hlt)
  have hL : l.length = ((l.map hdC).set p (owC (l.getD p ⟨0, [], []⟩) 4 5)).length := by simp
  cases d with
  | true =>
    have hql : q < (l.getD p ⟨0, [], []⟩).blocks.length := by
      have := hd.symm
      simp only [Bool.and_eq_true, decide_eq_true_eq] at this
      omega
    have hB : ((l.getD p ⟨0, [], []⟩).blocks.map bcC).getD q [] = bcC ((l.getD p ⟨0, [], []⟩).blocks.getD q []) := map_getD hql
    refine ACalls.ofC tys_ok Try.func9 rfl rfl (Nat.le_of_ble_eq_true rfl) ?_
    conv => whnf
    refine Fn.closed (hc) rfl ?_
    rintro _ rfl
    conv => whnf
    refine Fn.closed (ha) rfl ?_
    rintro _ rfl
    conv => whnf
    refine boolK_intro (fun h3 => ?_) (fun h3 => ?_) <;> simp only [decide_eq_true_eq, decide_eq_false_iff_not] at h3 <;> conv => whnf
    · omega
    refine boolK_intro (fun h4 => ?_) (fun h4 => ?_) <;> conv => whnf
    · rw [h8] at h4; cases h4
    refine ⟨by first | omega | (refine ⟨rfl, ?_, ?_⟩ <;> first | omega | (simp only [List.length_map]; done) | (simp only [List.length_map]; omega)) | (simp only [List.length_map]; omega), ?_⟩
    conv => whnf
    rw [Int.toNat_natCast]
    refine Fn.closed (hfu) rfl ?_
    rintro _ rfl
    conv => whnf
    refine ACalls.mono (htwinsI_own l p hlt hl hs) ?_
    rintro _ _ ⟨rfl, rfl⟩
    conv => whnf
    refine And.intro ⟨by simp, by simpa using hlt⟩ ?_
    conv => whnf
    refine And.intro ⟨rfl, hL, by simpa using hlt⟩ ?_
    conv => whnf
    rw [Int.toNat_natCast, hE]
    conv => whnf
    refine Fn.lend hbs ⟨by simp, rfl⟩ ?_
    rintro _ rfl
    refine ⟨rfl, ?_⟩
    conv => whnf
    apply aDraw.treeM (0) tys_ok mixed (.one 0 (.one 1 (.one 2 (.one 3 (.one 4 (.one 5 (.one 6 (.one 7 (.one 8 .fin))))))))) [57, 58, 59, 60, 61, 62, 63, 64] (by kernel_rfl)
    · conv => whnf
      try (refine And.intro ⟨rfl, hL, by simpa using hlt⟩ ?_; conv => whnf; (try rw [Int.toNat_natCast]); rw [hE]; conv => whnf)
      refine Fn.closed (bclone_fn b (by omega)) rfl ?_
      rintro _ rfl
      conv => whnf
      try (refine And.intro (by first | omega | (simp; done)) ?_; conv => whnf)
      try (refine And.intro ⟨rfl, by first | rfl | (simp; done) | (simp; omega), by first | omega | (simp; omega)⟩ ?_; conv => whnf)
      (rw [Int.toNat_natCast, hB])
      conv => whnf
      exact ⟨rfl, rfl⟩
    conv => whnf
    have hset : ((l.getD p ⟨0, [], []⟩).blocks.map bcC).set q (bcC b) = ((l.getD p ⟨0, [], []⟩).blocks.set q b).map bcC := List.map_set.symm
    have hX : owC (l.getD p ⟨0, [], []⟩) 4 5 = owC ⟨(l.getD p ⟨0, [], []⟩).id, (l.getD p ⟨0, [], []⟩).lbas, (l.getD p ⟨0, [], []⟩).blocks.set q b⟩ 4 5 := by simp [owC]
    obtain ⟨H', c1, c2⟩ := hd_done (H := [.rowo 36 3 ((l.map hdC).set p (owC (l.getD p ⟨0, [], []⟩) 4 5)) 6, .dead, .dead, .dead, .row 3 1 ((l.getD p ⟨0, [], []⟩).lbas.map icC), .row 23 1 (((l.getD p ⟨0, [], []⟩).blocks.map bcC).set q (bcC b))]) (l := l) (p := p) (h' := ⟨(l.getD p ⟨0, [], []⟩).id, (l.getD p ⟨0, [], []⟩).lbas, (l.getD p ⟨0, [], []⟩).blocks.set q b⟩) (a := 4) (b := 5) (m := 6) hlt (by decide) (by decide) (by rw [hX]; rfl) rfl (by rw [hset]; rfl)
    exact ⟨_, .tp [.ow 0 l.length, .v (.int .i64 0)], _, fun _ _ h => h, ⟨H', c1, ⟨[], trivial, ⟨rfl, trivial⟩, wkH_o (wk1 c2), rfl, rfl, rfl⟩⟩, rfl, rfl⟩
  | false =>
    refine ACalls.ofC tys_ok Try.func9 rfl rfl (Nat.le_of_ble_eq_true rfl) ?_
    conv => whnf
    refine Fn.closed (hc) rfl ?_
    rintro _ rfl
    conv => whnf
    refine Fn.closed (ha) rfl ?_
    rintro _ rfl
    conv => whnf
    refine boolK_intro (fun h3 => ?_) (fun h3 => ?_) <;> simp only [decide_eq_true_eq, decide_eq_false_iff_not] at h3 <;> conv => whnf
    · omega
    refine boolK_intro (fun h4 => ?_) (fun h4 => ?_) <;> conv => whnf
    · rw [h8] at h4; cases h4
    refine ⟨by first | omega | (refine ⟨rfl, ?_, ?_⟩ <;> first | omega | (simp only [List.length_map]; done) | (simp only [List.length_map]; omega)) | (simp only [List.length_map]; omega), ?_⟩
    conv => whnf
    rw [Int.toNat_natCast]
    refine Fn.closed (hfu) rfl ?_
    rintro _ rfl
    conv => whnf
    refine ACalls.mono (htwinsI_own l p hlt hl hs) ?_
    rintro _ _ ⟨rfl, rfl⟩
    conv => whnf
    refine And.intro ⟨by simp, by simpa using hlt⟩ ?_
    conv => whnf
    refine And.intro ⟨rfl, hL, by simpa using hlt⟩ ?_
    conv => whnf
    rw [Int.toNat_natCast, hE]
    conv => whnf
    refine Fn.lend hbs ⟨by simp, rfl⟩ ?_
    rintro _ rfl
    refine ⟨rfl, ?_⟩
    conv => whnf
    apply aDraw.treeM (14336 + 2 ^ 137 + 2 ^ 146) tys_ok mixed (.one 0 (.one 1 (.one 2 (.one 3 (.one 4 (.one 5 (.one 6 (.one 7 (.one 10 (.one 14 (.one 15 (.two 8 (.two 9 (.two 11 (.two 12 (.two 13 (.one 16 (.one 17 (.one 18 (.one 19 (.one 20 (.one 21 (.one 22 (.one 23 (.one 24 .fin))))))))) 16 (.two 13 (.one 17 (.one 18 (.one 19 (.one 20 (.one 21 (.one 22 (.one 23 (.one 24 .fin)))))))) 17 (.one 13 (.one 18 (.one 19 (.one 20 (.one 21 (.one 22 (.one 23 (.one 24 .fin)))))))))) 16 (.two 12 (.two 13 (.one 17 (.one 18 (.one 19 (.one 20 (.one 21 (.one 22 (.one 23 (.one 24 .fin)))))))) 17 (.one 13 (.one 18 (.one 19 (.one 20 (.one 21 (.one 22 (.one 23 (.one 24 .fin))))))))) 17 (.one 12 (.one 13 (.one 18 (.one 19 (.one 20 (.one 21 (.one 22 (.one 23 (.one 24 .fin))))))))))) 16 (.two 11 (.two 12 (.two 13 (.one 17 (.one 18 (.one 19 (.one 20 (.one 21 (.one 22 (.one 23 (.one 24 .fin)))))))) 17 (.one 13 (.one 18 (.one 19 (.one 20 (.one 21 (.one 22 (.one 23 (.one 24 .fin))))))))) 17 (.one 12 (.one 13 (.one 18 (.one 19 (.one 20 (.one 21 (.one 22 (.one 23 (.one 24 .fin)))))))))) 17 (.one 11 (.one 12 (.one 13 (.one 18 (.one 19 (.one 20 (.one 21 (.one 22 (.one 23 (.one 24 .fin)))))))))))) 11 (.two 9 (.two 12 (.two 13 (.one 16 (.one 17 (.one 18 (.one 19 (.one 20 (.one 21 (.one 22 (.one 23 (.one 24 .fin))))))))) 16 (.two 13 (.one 17 (.one 18 (.one 19 (.one 20 (.one 21 (.one 22 (.one 23 (.one 24 .fin)))))))) 17 (.one 13 (.one 18 (.one 19 (.one 20 (.one 21 (.one 22 (.one 23 (.one 24 .fin)))))))))) 16 (.two 12 (.two 13 (.one 17 (.one 18 (.one 19 (.one 20 (.one 21 (.one 22 (.one 23 (.one 24 .fin)))))))) 17 (.one 13 (.one 18 (.one 19 (.one 20 (.one 21 (.one 22 (.one 23 (.one 24 .fin))))))))) 17 (.one 12 (.one 13 (.one 18 (.one 19 (.one 20 (.one 21 (.one 22 (.one 23 (.one 24 .fin))))))))))) 12 (.two 9 (.two 13 (.one 16 (.one 17 (.one 18 (.one 19 (.one 20 (.one 21 (.one 22 (.one 23 (.one 24 .fin))))))))) 16 (.two 13 (.one 17 (.one 18 (.one 19 (.one 20 (.one 21 (.one 22 (.one 23 (.one 24 .fin)))))))) 17 (.one 13 (.one 18 (.one 19 (.one 20 (.one 21 (.one 22 (.one 23 (.one 24 .fin)))))))))) 13 (.one 9 (.one 16 (.one 17 (.one 18 (.one 19 (.one 20 (.one 21 (.one 22 (.one 23 (.one 24 .fin))))))))))))) 11 (.two 8 (.two 9 (.two 12 (.two 13 (.one 16 (.one 17 (.one 18 (.one 19 (.one 20 (.one 21 (.one 22 (.one 23 (.one 24 .fin))))))))) 16 (.two 13 (.one 17 (.one 18 (.one 19 (.one 20 (.one 21 (.one 22 (.one 23 (.one 24 .fin)))))))) 17 (.one 13 (.one 18 (.one 19 (.one 20 (.one 21 (.one 22 (.one 23 (.one 24 .fin)))))))))) 16 (.two 12 (.two 13 (.one 17 (.one 18 (.one 19 (.one 20 (.one 21 (.one 22 (.one 23 (.one 24 .fin)))))))) 17 (.one 13 (.one 18 (.one 19 (.one 20 (.one 21 (.one 22 (.one 23 (.one 24 .fin))))))))) 17 (.one 12 (.one 13 (.one 18 (.one 19 (.one 20 (.one 21 (.one 22 (.one 23 (.one 24 .fin))))))))))) 12 (.two 9 (.two 13 (.one 16 (.one 17 (.one 18 (.one 19 (.one 20 (.one 21 (.one 22 (.one 23 (.one 24 .fin))))))))) 16 (.two 13 (.one 17 (.one 18 (.one 19 (.one 20 (.one 21 (.one 22 (.one 23 (.one 24 .fin)))))))) 17 (.one 13 (.one 18 (.one 19 (.one 20 (.one 21 (.one 22 (.one 23 (.one 24 .fin)))))))))) 13 (.one 9 (.one 16 (.one 17 (.one 18 (.one 19 (.one 20 (.one 21 (.one 22 (.one 23 (.one 24 .fin)))))))))))) 12 (.two 8 (.two 9 (.two 13 (.one 16 (.one 17 (.one 18 (.one 19 (.one 20 (.one 21 (.one 22 (.one 23 (.one 24 .fin))))))))) 16 (.two 13 (.one 17 (.one 18 (.one 19 (.one 20 (.one 21 (.one 22 (.one 23 (.one 24 .fin)))))))) 17 (.one 13 (.one 18 (.one 19 (.one 20 (.one 21 (.one 22 (.one 23 (.one 24 .fin)))))))))) 13 (.one 9 (.one 16 (.one 17 (.one 18 (.one 19 (.one 20 (.one 21 (.one 22 (.one 23 (.one 24 .fin))))))))))) 13 (.one 8 (.one 9 (.one 16 (.one 17 (.one 18 (.one 19 (.one 20 (.one 21 (.one 22 (.one 23 (.one 24 .fin))))))))))))))))))))))))) [66, 67, 68, 69, 70, 71, 72, 73, 74, 75, 76, 77, 78, 79, 80, 81, 82, 83, 84, 85, 86, 87, 88] (by kernel_rfl)
    · conv => whnf
      try (refine And.intro ⟨rfl, hL, by simpa using hlt⟩ ?_; conv => whnf; (try rw [Int.toNat_natCast]); rw [hE]; conv => whnf)
      refine And.intro ?_ ?_
      · conv => whnf
        refine And.intro ?_ ?_
        · conv => whnf
          (refine ACalls.frame [4, 6] (iinsert_own ((l.getD p ⟨0, [], []⟩).lbas.map icC) [.v (.int .i64 lba)] _ q (by simp) hq (by omega)) rfl rfl rfl rfl (by decide) (bltAll rfl) ⟨rfl, rfl, trivial⟩ ?_; rintro _ _ ⟨rfl, rfl⟩)
          conv => whnf
          refine And.intro ?_ ?_
          · conv => whnf
            refine And.intro ?_ ?_
            · conv => whnf
              refine And.intro ?_ ?_
              · conv => whnf
                try (refine And.intro ⟨rfl, hL, by simpa using hlt⟩ ?_; conv => whnf; (try rw [Int.toNat_natCast]); rw [hE]; conv => whnf)
                refine Fn.closed (bclone_fn b (by omega)) rfl ?_
                rintro _ rfl
                conv => whnf
                (refine ACalls.frame [5, 8] (binsert_own ((l.getD p ⟨0, [], []⟩).blocks.map bcC) [bA b] _ q (by simp) (by omega) (by omega)) rfl rfl rfl rfl (by decide) (bltAll rfl) ⟨rfl, rfl, trivial⟩ ?_; rintro _ _ ⟨rfl, rfl⟩)
                conv => whnf
                try (refine And.intro ⟨rfl, by first | rfl | (simp; done) | (simp; omega), by first | omega | (simp; omega)⟩ ?_; conv => whnf)
                (first | rw [hE] | rw [set_getD_eq (by simpa using hlt)])
                conv => whnf
                try (refine And.intro ⟨rfl, by first | rfl | (simp; done) | (simp; omega), by first | omega | (simp; omega)⟩ ?_; conv => whnf)
                (first | rw [hE] | rw [set_getD_eq (by simpa using hlt)])
                conv => whnf
                exact ⟨rfl, rfl⟩
              · conv => whnf
                refine Fn.closed (bclone_fn b (by omega)) rfl ?_
                rintro _ rfl
                conv => whnf
                refine And.intro ?_ ?_
                · conv => whnf
                  try (refine And.intro ⟨rfl, hL, by simpa using hlt⟩ ?_; conv => whnf; (try rw [Int.toNat_natCast]); rw [hE]; conv => whnf)
                  (refine ACalls.frame [5, 8] (binsert_own ((l.getD p ⟨0, [], []⟩).blocks.map bcC) [bA b] _ q (by simp) (by omega) (by omega)) rfl rfl rfl rfl (by decide) (bltAll rfl) ⟨rfl, rfl, trivial⟩ ?_; rintro _ _ ⟨rfl, rfl⟩)
                  conv => whnf
                  try (refine And.intro ⟨rfl, by first | rfl | (simp; done) | (simp; omega), by first | omega | (simp; omega)⟩ ?_; conv => whnf)
                  (first | rw [hE] | rw [set_getD_eq (by simpa using hlt)])
                  conv => whnf
                  try (refine And.intro ⟨rfl, by first | rfl | (simp; done) | (simp; omega), by first | omega | (simp; omega)⟩ ?_; conv => whnf)
                  (first | rw [hE] | rw [set_getD_eq (by simpa using hlt)])
                  conv => whnf
                  exact ⟨rfl, rfl⟩
                · conv => whnf
                  try (refine And.intro ⟨rfl, hL, by simpa using hlt⟩ ?_; conv => whnf; (try rw [Int.toNat_natCast]); rw [hE]; conv => whnf)
                  (refine ACalls.frame [5, 8] (binsert_own ((l.getD p ⟨0, [], []⟩).blocks.map bcC) [bA b] _ q (by simp) (by omega) (by omega)) rfl rfl rfl rfl (by decide) (bltAll rfl) ⟨rfl, rfl, trivial⟩ ?_; rintro _ _ ⟨rfl, rfl⟩)
                  conv => whnf
                  try (refine And.intro ⟨rfl, by first | rfl | (simp; done) | (simp; omega), by first | omega | (simp; omega)⟩ ?_; conv => whnf)
                  (first | rw [hE] | rw [set_getD_eq (by simpa using hlt)])
                  conv => whnf
                  try (refine And.intro ⟨rfl, by first | rfl | (simp; done) | (simp; omega), by first | omega | (simp; omega)⟩ ?_; conv => whnf)
                  (first | rw [hE] | rw [set_getD_eq (by simpa using hlt)])
                  conv => whnf
                  exact ⟨rfl, rfl⟩
            · conv => whnf
              refine Fn.closed (bclone_fn b (by omega)) rfl ?_
              rintro _ rfl
              conv => whnf
              refine And.intro ?_ ?_
              · conv => whnf
                refine And.intro ?_ ?_
                · conv => whnf
                  try (refine And.intro ⟨rfl, hL, by simpa using hlt⟩ ?_; conv => whnf; (try rw [Int.toNat_natCast]); rw [hE]; conv => whnf)
                  (refine ACalls.frame [5, 8] (binsert_own ((l.getD p ⟨0, [], []⟩).blocks.map bcC) [bA b] _ q (by simp) (by omega) (by omega)) rfl rfl rfl rfl (by decide) (bltAll rfl) ⟨rfl, rfl, trivial⟩ ?_; rintro _ _ ⟨rfl, rfl⟩)
                  conv => whnf
                  try (refine And.intro ⟨rfl, by first | rfl | (simp; done) | (simp; omega), by first | omega | (simp; omega)⟩ ?_; conv => whnf)
                  (first | rw [hE] | rw [set_getD_eq (by simpa using hlt)])
                  conv => whnf
                  try (refine And.intro ⟨rfl, by first | rfl | (simp; done) | (simp; omega), by first | omega | (simp; omega)⟩ ?_; conv => whnf)
                  (first | rw [hE] | rw [set_getD_eq (by simpa using hlt)])
                  conv => whnf
                  exact ⟨rfl, rfl⟩
                · conv => whnf
                  try (refine And.intro ⟨rfl, hL, by simpa using hlt⟩ ?_; conv => whnf; (try rw [Int.toNat_natCast]); rw [hE]; conv => whnf)
                  (refine ACalls.frame [5, 8] (binsert_own ((l.getD p ⟨0, [], []⟩).blocks.map bcC) [bA b] _ q (by simp) (by omega) (by omega)) rfl rfl rfl rfl (by decide) (bltAll rfl) ⟨rfl, rfl, trivial⟩ ?_; rintro _ _ ⟨rfl, rfl⟩)
                  conv => whnf
                  try (refine And.intro ⟨rfl, by first | rfl | (simp; done) | (simp; omega), by first | omega | (simp; omega)⟩ ?_; conv => whnf)
                  (first | rw [hE] | rw [set_getD_eq (by simpa using hlt)])
                  conv => whnf
                  try (refine And.intro ⟨rfl, by first | rfl | (simp; done) | (simp; omega), by first | omega | (simp; omega)⟩ ?_; conv => whnf)
                  (first | rw [hE] | rw [set_getD_eq (by simpa using hlt)])
                  conv => whnf
                  exact ⟨rfl, rfl⟩
              · conv => whnf
                try (refine And.intro ⟨rfl, hL, by simpa using hlt⟩ ?_; conv => whnf; (try rw [Int.toNat_natCast]); rw [hE]; conv => whnf)
                (refine ACalls.frame [5, 8] (binsert_own ((l.getD p ⟨0, [], []⟩).blocks.map bcC) [bA b] _ q (by simp) (by omega) (by omega)) rfl rfl rfl rfl (by decide) (bltAll rfl) ⟨rfl, rfl, trivial⟩ ?_; rintro _ _ ⟨rfl, rfl⟩)
                conv => whnf
                try (refine And.intro ⟨rfl, by first | rfl | (simp; done) | (simp; omega), by first | omega | (simp; omega)⟩ ?_; conv => whnf)
                (first | rw [hE] | rw [set_getD_eq (by simpa using hlt)])
                conv => whnf
                try (refine And.intro ⟨rfl, by first | rfl | (simp; done) | (simp; omega), by first | omega | (simp; omega)⟩ ?_; conv => whnf)
                (first | rw [hE] | rw [set_getD_eq (by simpa using hlt)])
                conv => whnf
                exact ⟨rfl, rfl⟩
          · conv => whnf
            refine Fn.closed (bclone_fn b (by omega)) rfl ?_
            rintro _ rfl
            conv => whnf
            refine And.intro ?_ ?_
            · conv => whnf
              refine And.intro ?_ ?_
              · conv => whnf
                refine And.intro ?_ ?_
                · conv => whnf
                  try (refine And.intro ⟨rfl, hL, by simpa using hlt⟩ ?_; conv => whnf; (try rw [Int.toNat_natCast]); rw [hE]; conv => whnf)
                  (refine ACalls.frame [5, 8] (binsert_own ((l.getD p ⟨0, [], []⟩).blocks.map bcC) [bA b] _ q (by simp) (by omega) (by omega)) rfl rfl rfl rfl (by decide) (bltAll rfl) ⟨rfl, rfl, trivial⟩ ?_; rintro _ _ ⟨rfl, rfl⟩)
                  conv => whnf
                  try (refine And.intro ⟨rfl, by first | rfl | (simp; done) | (simp; omega), by first | omega | (simp; omega)⟩ ?_; conv => whnf)
                  (first | rw [hE] | rw [set_getD_eq (by simpa using hlt)])
                  conv => whnf
                  try (refine And.intro ⟨rfl, by first | rfl | (simp; done) | (simp; omega), by first | omega | (simp; omega)⟩ ?_; conv => whnf)
                  (first | rw [hE] | rw [set_getD_eq (by simpa using hlt)])
                  conv => whnf
                  exact ⟨rfl, rfl⟩
                · conv => whnf
                  try (refine And.intro ⟨rfl, hL, by simpa using hlt⟩ ?_; conv => whnf; (try rw [Int.toNat_natCast]); rw [hE]; conv => whnf)
                  (refine ACalls.frame [5, 8] (binsert_own ((l.getD p ⟨0, [], []⟩).blocks.map bcC) [bA b] _ q (by simp) (by omega) (by omega)) rfl rfl rfl rfl (by decide) (bltAll rfl) ⟨rfl, rfl, trivial⟩ ?_; rintro _ _ ⟨rfl, rfl⟩)
                  conv => whnf
                  try (refine And.intro ⟨rfl, by first | rfl | (simp; done) | (simp; omega), by first | omega | (simp; omega)⟩ ?_; conv => whnf)
                  (first | rw [hE] | rw [set_getD_eq (by simpa using hlt)])
                  conv => whnf
                  try (refine And.intro ⟨rfl, by first | rfl | (simp; done) | (simp; omega), by first | omega | (simp; omega)⟩ ?_; conv => whnf)
                  (first | rw [hE] | rw [set_getD_eq (by simpa using hlt)])
                  conv => whnf
                  exact ⟨rfl, rfl⟩
              · conv => whnf
                try (refine And.intro ⟨rfl, hL, by simpa using hlt⟩ ?_; conv => whnf; (try rw [Int.toNat_natCast]); rw [hE]; conv => whnf)
                (refine ACalls.frame [5, 8] (binsert_own ((l.getD p ⟨0, [], []⟩).blocks.map bcC) [bA b] _ q (by simp) (by omega) (by omega)) rfl rfl rfl rfl (by decide) (bltAll rfl) ⟨rfl, rfl, trivial⟩ ?_; rintro _ _ ⟨rfl, rfl⟩)
                conv => whnf
                try (refine And.intro ⟨rfl, by first | rfl | (simp; done) | (simp; omega), by first | omega | (simp; omega)⟩ ?_; conv => whnf)
                (first | rw [hE] | rw [set_getD_eq (by simpa using hlt)])
                conv => whnf
                try (refine And.intro ⟨rfl, by first | rfl | (simp; done) | (simp; omega), by first | omega | (simp; omega)⟩ ?_; conv => whnf)
                (first | rw [hE] | rw [set_getD_eq (by simpa using hlt)])
                conv => whnf
                exact ⟨rfl, rfl⟩
            · conv => whnf
              try (refine And.intro ⟨rfl, hL, by simpa using hlt⟩ ?_; conv => whnf; (try rw [Int.toNat_natCast]); rw [hE]; conv => whnf)
              (refine ACalls.frame [5, 8] (binsert_own ((l.getD p ⟨0, [], []⟩).blocks.map bcC) [bA b] _ q (by simp) (by omega) (by omega)) rfl rfl rfl rfl (by decide) (bltAll rfl) ⟨rfl, rfl, trivial⟩ ?_; rintro _ _ ⟨rfl, rfl⟩)
              conv => whnf
              try (refine And.intro ⟨rfl, by first | rfl | (simp; done) | (simp; omega), by first | omega | (simp; omega)⟩ ?_; conv => whnf)
              (first | rw [hE] | rw [set_getD_eq (by simpa using hlt)])
              conv => whnf
              try (refine And.intro ⟨rfl, by first | rfl | (simp; done) | (simp; omega), by first | omega | (simp; omega)⟩ ?_; conv => whnf)
              (first | rw [hE] | rw [set_getD_eq (by simpa using hlt)])
              conv => whnf
              exact ⟨rfl, rfl⟩
        · conv => whnf
          refine And.intro ?_ ?_
          · conv => whnf
            (refine ACalls.frame [4, 6] (iinsert_own ((l.getD p ⟨0, [], []⟩).lbas.map icC) [.v (.int .i64 lba)] _ q (by simp) hq (by omega)) rfl rfl rfl rfl (by decide) (bltAll rfl) ⟨rfl, rfl, trivial⟩ ?_; rintro _ _ ⟨rfl, rfl⟩)
            conv => whnf
            refine And.intro ?_ ?_
            · conv => whnf
              refine And.intro ?_ ?_
              · conv => whnf
                try (refine And.intro ⟨rfl, hL, by simpa using hlt⟩ ?_; conv => whnf; (try rw [Int.toNat_natCast]); rw [hE]; conv => whnf)
                refine Fn.closed (bclone_fn b (by omega)) rfl ?_
                rintro _ rfl
                conv => whnf
                (refine ACalls.frame [5, 8] (binsert_own ((l.getD p ⟨0, [], []⟩).blocks.map bcC) [bA b] _ q (by simp) (by omega) (by omega)) rfl rfl rfl rfl (by decide) (bltAll rfl) ⟨rfl, rfl, trivial⟩ ?_; rintro _ _ ⟨rfl, rfl⟩)
                conv => whnf
                try (refine And.intro ⟨rfl, by first | rfl | (simp; done) | (simp; omega), by first | omega | (simp; omega)⟩ ?_; conv => whnf)
                (first | rw [hE] | rw [set_getD_eq (by simpa using hlt)])
                conv => whnf
                try (refine And.intro ⟨rfl, by first | rfl | (simp; done) | (simp; omega), by first | omega | (simp; omega)⟩ ?_; conv => whnf)
                (first | rw [hE] | rw [set_getD_eq (by simpa using hlt)])
                conv => whnf
                exact ⟨rfl, rfl⟩
              · conv => whnf
                refine Fn.closed (bclone_fn b (by omega)) rfl ?_
                rintro _ rfl
                conv => whnf
                refine And.intro ?_ ?_
                · conv => whnf
                  try (refine And.intro ⟨rfl, hL, by simpa using hlt⟩ ?_; conv => whnf; (try rw [Int.toNat_natCast]); rw [hE]; conv => whnf)
                  (refine ACalls.frame [5, 8] (binsert_own ((l.getD p ⟨0, [], []⟩).blocks.map bcC) [bA b] _ q (by simp) (by omega) (by omega)) rfl rfl rfl rfl (by decide) (bltAll rfl) ⟨rfl, rfl, trivial⟩ ?_; rintro _ _ ⟨rfl, rfl⟩)
                  conv => whnf
                  try (refine And.intro ⟨rfl, by first | rfl | (simp; done) | (simp; omega), by first | omega | (simp; omega)⟩ ?_; conv => whnf)
                  (first | rw [hE] | rw [set_getD_eq (by simpa using hlt)])
                  conv => whnf
                  try (refine And.intro ⟨rfl, by first | rfl | (simp; done) | (simp; omega), by first | omega | (simp; omega)⟩ ?_; conv => whnf)
                  (first | rw [hE] | rw [set_getD_eq (by simpa using hlt)])
                  conv => whnf
                  exact ⟨rfl, rfl⟩
                · conv => whnf
                  try (refine And.intro ⟨rfl, hL, by simpa using hlt⟩ ?_; conv => whnf; (try rw [Int.toNat_natCast]); rw [hE]; conv => whnf)
                  (refine ACalls.frame [5, 8] (binsert_own ((l.getD p ⟨0, [], []⟩).blocks.map bcC) [bA b] _ q (by simp) (by omega) (by omega)) rfl rfl rfl rfl (by decide) (bltAll rfl) ⟨rfl, rfl, trivial⟩ ?_; rintro _ _ ⟨rfl, rfl⟩)
                  conv => whnf
                  try (refine And.intro ⟨rfl, by first | rfl | (simp; done) | (simp; omega), by first | omega | (simp; omega)⟩ ?_; conv => whnf)
                  (first | rw [hE] | rw [set_getD_eq (by simpa using hlt)])
                  conv => whnf
                  try (refine And.intro ⟨rfl, by first | rfl | (simp; done) | (simp; omega), by first | omega | (simp; omega)⟩ ?_; conv => whnf)
                  (first | rw [hE] | rw [set_getD_eq (by simpa using hlt)])
                  conv => whnf
                  exact ⟨rfl, rfl⟩
            · conv => whnf
              refine Fn.closed (bclone_fn b (by omega)) rfl ?_
              rintro _ rfl
              conv => whnf
              refine And.intro ?_ ?_
              · conv => whnf
                refine And.intro ?_ ?_
                · conv => whnf
                  try (refine And.intro ⟨rfl, hL, by simpa using hlt⟩ ?_; conv => whnf; (try rw [Int.toNat_natCast]); rw [hE]; conv => whnf)
                  (refine ACalls.frame [5, 8] (binsert_own ((l.getD p ⟨0, [], []⟩).blocks.map bcC) [bA b] _ q (by simp) (by omega) (by omega)) rfl rfl rfl rfl (by decide) (bltAll rfl) ⟨rfl, rfl, trivial⟩ ?_; rintro _ _ ⟨rfl, rfl⟩)
                  conv => whnf
                  try (refine And.intro ⟨rfl, by first | rfl | (simp; done) | (simp; omega), by first | omega | (simp; omega)⟩ ?_; conv => whnf)
                  (first | rw [hE] | rw [set_getD_eq (by simpa using hlt)])
                  conv => whnf
                  try (refine And.intro ⟨rfl, by first | rfl | (simp; done) | (simp; omega), by first | omega | (simp; omega)⟩ ?_; conv => whnf)
                  (first | rw [hE] | rw [set_getD_eq (by simpa using hlt)])
                  conv => whnf
                  exact ⟨rfl, rfl⟩
                · conv => whnf
                  try (refine And.intro ⟨rfl, hL, by simpa using hlt⟩ ?_; conv => whnf; (try rw [Int.toNat_natCast]); rw [hE]; conv => whnf)
                  (refine ACalls.frame [5, 8] (binsert_own ((l.getD p ⟨0, [], []⟩).blocks.map bcC) [bA b] _ q (by simp) (by omega) (by omega)) rfl rfl rfl rfl (by decide) (bltAll rfl) ⟨rfl, rfl, trivial⟩ ?_; rintro _ _ ⟨rfl, rfl⟩)
                  conv => whnf
                  try (refine And.intro ⟨rfl, by first | rfl | (simp; done) | (simp; omega), by first | omega | (simp; omega)⟩ ?_; conv => whnf)
                  (first | rw [hE] | rw [set_getD_eq (by simpa using hlt)])
                  conv => whnf
                  try (refine And.intro ⟨rfl, by first | rfl | (simp; done) | (simp; omega), by first | omega | (simp; omega)⟩ ?_; conv => whnf)
                  (first | rw [hE] | rw [set_getD_eq (by simpa using hlt)])
                  conv => whnf
                  exact ⟨rfl, rfl⟩
              · conv => whnf
                try (refine And.intro ⟨rfl, hL, by simpa using hlt⟩ ?_; conv => whnf; (try rw [Int.toNat_natCast]); rw [hE]; conv => whnf)
                (refine ACalls.frame [5, 8] (binsert_own ((l.getD p ⟨0, [], []⟩).blocks.map bcC) [bA b] _ q (by simp) (by omega) (by omega)) rfl rfl rfl rfl (by decide) (bltAll rfl) ⟨rfl, rfl, trivial⟩ ?_; rintro _ _ ⟨rfl, rfl⟩)
                conv => whnf
                try (refine And.intro ⟨rfl, by first | rfl | (simp; done) | (simp; omega), by first | omega | (simp; omega)⟩ ?_; conv => whnf)
                (first | rw [hE] | rw [set_getD_eq (by simpa using hlt)])
                conv => whnf
                try (refine And.intro ⟨rfl, by first | rfl | (simp; done) | (simp; omega), by first | omega | (simp; omega)⟩ ?_; conv => whnf)
                (first | rw [hE] | rw [set_getD_eq (by simpa using hlt)])
                conv => whnf
                exact ⟨rfl, rfl⟩
          · conv => whnf
            refine And.intro ?_ ?_
            · conv => whnf
              (refine ACalls.frame [4, 6] (iinsert_own ((l.getD p ⟨0, [], []⟩).lbas.map icC) [.v (.int .i64 lba)] _ q (by simp) hq (by omega)) rfl rfl rfl rfl (by decide) (bltAll rfl) ⟨rfl, rfl, trivial⟩ ?_; rintro _ _ ⟨rfl, rfl⟩)
              conv => whnf
              refine And.intro ?_ ?_
              · conv => whnf
                try (refine And.intro ⟨rfl, hL, by simpa using hlt⟩ ?_; conv => whnf; (try rw [Int.toNat_natCast]); rw [hE]; conv => whnf)
                refine Fn.closed (bclone_fn b (by omega)) rfl ?_
                rintro _ rfl
                conv => whnf
                (refine ACalls.frame [5, 8] (binsert_own ((l.getD p ⟨0, [], []⟩).blocks.map bcC) [bA b] _ q (by simp) (by omega) (by omega)) rfl rfl rfl rfl (by decide) (bltAll rfl) ⟨rfl, rfl, trivial⟩ ?_; rintro _ _ ⟨rfl, rfl⟩)
                conv => whnf
                try (refine And.intro ⟨rfl, by first | rfl | (simp; done) | (simp; omega), by first | omega | (simp; omega)⟩ ?_; conv => whnf)
                (first | rw [hE] | rw [set_getD_eq (by simpa using hlt)])
                conv => whnf
                try (refine And.intro ⟨rfl, by first | rfl | (simp; done) | (simp; omega), by first | omega | (simp; omega)⟩ ?_; conv => whnf)
                (first | rw [hE] | rw [set_getD_eq (by simpa using hlt)])
                conv => whnf
                exact ⟨rfl, rfl⟩
              · conv => whnf
                refine Fn.closed (bclone_fn b (by omega)) rfl ?_
                rintro _ rfl
                conv => whnf
                refine And.intro ?_ ?_
                · conv => whnf
                  try (refine And.intro ⟨rfl, hL, by simpa using hlt⟩ ?_; conv => whnf; (try rw [Int.toNat_natCast]); rw [hE]; conv => whnf)
                  (refine ACalls.frame [5, 8] (binsert_own ((l.getD p ⟨0, [], []⟩).blocks.map bcC) [bA b] _ q (by simp) (by omega) (by omega)) rfl rfl rfl rfl (by decide) (bltAll rfl) ⟨rfl, rfl, trivial⟩ ?_; rintro _ _ ⟨rfl, rfl⟩)
                  conv => whnf
                  try (refine And.intro ⟨rfl, by first | rfl | (simp; done) | (simp; omega), by first | omega | (simp; omega)⟩ ?_; conv => whnf)
                  (first | rw [hE] | rw [set_getD_eq (by simpa using hlt)])
                  conv => whnf
                  try (refine And.intro ⟨rfl, by first | rfl | (simp; done) | (simp; omega), by first | omega | (simp; omega)⟩ ?_; conv => whnf)
                  (first | rw [hE] | rw [set_getD_eq (by simpa using hlt)])
                  conv => whnf
                  exact ⟨rfl, rfl⟩
                · conv => whnf
                  try (refine And.intro ⟨rfl, hL, by simpa using hlt⟩ ?_; conv => whnf; (try rw [Int.toNat_natCast]); rw [hE]; conv => whnf)
                  (refine ACalls.frame [5, 8] (binsert_own ((l.getD p ⟨0, [], []⟩).blocks.map bcC) [bA b] _ q (by simp) (by omega) (by omega)) rfl rfl rfl rfl (by decide) (bltAll rfl) ⟨rfl, rfl, trivial⟩ ?_; rintro _ _ ⟨rfl, rfl⟩)
                  conv => whnf
                  try (refine And.intro ⟨rfl, by first | rfl | (simp; done) | (simp; omega), by first | omega | (simp; omega)⟩ ?_; conv => whnf)
                  (first | rw [hE] | rw [set_getD_eq (by simpa using hlt)])
                  conv => whnf
                  try (refine And.intro ⟨rfl, by first | rfl | (simp; done) | (simp; omega), by first | omega | (simp; omega)⟩ ?_; conv => whnf)
                  (first | rw [hE] | rw [set_getD_eq (by simpa using hlt)])
                  conv => whnf
                  exact ⟨rfl, rfl⟩
            · conv => whnf
              try (refine And.intro ⟨rfl, hL, by simpa using hlt⟩ ?_; conv => whnf; (try rw [Int.toNat_natCast]); rw [hE]; conv => whnf)
              (refine ACalls.frame [4, 6] (iinsert_own ((l.getD p ⟨0, [], []⟩).lbas.map icC) [.v (.int .i64 lba)] _ q (by simp) hq (by omega)) rfl rfl rfl rfl (by decide) (bltAll rfl) ⟨rfl, rfl, trivial⟩ ?_; rintro _ _ ⟨rfl, rfl⟩)
              conv => whnf
              refine Fn.closed (bclone_fn b (by omega)) rfl ?_
              rintro _ rfl
              conv => whnf
              (refine ACalls.frame [5, 8] (binsert_own ((l.getD p ⟨0, [], []⟩).blocks.map bcC) [bA b] _ q (by simp) (by omega) (by omega)) rfl rfl rfl rfl (by decide) (bltAll rfl) ⟨rfl, rfl, trivial⟩ ?_; rintro _ _ ⟨rfl, rfl⟩)
              conv => whnf
              try (refine And.intro ⟨rfl, by first | rfl | (simp; done) | (simp; omega), by first | omega | (simp; omega)⟩ ?_; conv => whnf)
              (first | rw [hE] | rw [set_getD_eq (by simpa using hlt)])
              conv => whnf
              try (refine And.intro ⟨rfl, by first | rfl | (simp; done) | (simp; omega), by first | omega | (simp; omega)⟩ ?_; conv => whnf)
              (first | rw [hE] | rw [set_getD_eq (by simpa using hlt)])
              conv => whnf
              exact ⟨rfl, rfl⟩
      · conv => whnf
        refine And.intro ?_ ?_
        · conv => whnf
          refine And.intro ?_ ?_
          · conv => whnf
            (refine ACalls.frame [4, 6] (iinsert_own ((l.getD p ⟨0, [], []⟩).lbas.map icC) [.v (.int .i64 lba)] _ q (by simp) hq (by omega)) rfl rfl rfl rfl (by decide) (bltAll rfl) ⟨rfl, rfl, trivial⟩ ?_; rintro _ _ ⟨rfl, rfl⟩)
            conv => whnf
            refine And.intro ?_ ?_
            · conv => whnf
              refine And.intro ?_ ?_
              · conv => whnf
                try (refine And.intro ⟨rfl, hL, by simpa using hlt⟩ ?_; conv => whnf; (try rw [Int.toNat_natCast]); rw [hE]; conv => whnf)
                refine Fn.closed (bclone_fn b (by omega)) rfl ?_
                rintro _ rfl
                conv => whnf
                (refine ACalls.frame [5, 8] (binsert_own ((l.getD p ⟨0, [], []⟩).blocks.map bcC) [bA b] _ q (by simp) (by omega) (by omega)) rfl rfl rfl rfl (by decide) (bltAll rfl) ⟨rfl, rfl, trivial⟩ ?_; rintro _ _ ⟨rfl, rfl⟩)
                conv => whnf
                try (refine And.intro ⟨rfl, by first | rfl | (simp; done) | (simp; omega), by first | omega | (simp; omega)⟩ ?_; conv => whnf)
                (first | rw [hE] | rw [set_getD_eq (by simpa using hlt)])
                conv => whnf
                try (refine And.intro ⟨rfl, by first | rfl | (simp; done) | (simp; omega), by first | omega | (simp; omega)⟩ ?_; conv => whnf)
                (first | rw [hE] | rw [set_getD_eq (by simpa using hlt)])
                conv => whnf
                exact ⟨rfl, rfl⟩
              · conv => whnf
                refine Fn.closed (bclone_fn b (by omega)) rfl ?_
                rintro _ rfl
                conv => whnf
                refine And.intro ?_ ?_
                · conv => whnf
                  try (refine And.intro ⟨rfl, hL, by simpa using hlt⟩ ?_; conv => whnf; (try rw [Int.toNat_natCast]); rw [hE]; conv => whnf)
                  (refine ACalls.frame [5, 8] (binsert_own ((l.getD p ⟨0, [], []⟩).blocks.map bcC) [bA b] _ q (by simp) (by omega) (by omega)) rfl rfl rfl rfl (by decide) (bltAll rfl) ⟨rfl, rfl, trivial⟩ ?_; rintro _ _ ⟨rfl, rfl⟩)
                  conv => whnf
                  try (refine And.intro ⟨rfl, by first | rfl | (simp; done) | (simp; omega), by first | omega | (simp; omega)⟩ ?_; conv => whnf)
                  (first | rw [hE] | rw [set_getD_eq (by simpa using hlt)])
                  conv => whnf
                  try (refine And.intro ⟨rfl, by first | rfl | (simp; done) | (simp; omega), by first | omega | (simp; omega)⟩ ?_; conv => whnf)
                  (first | rw [hE] | rw [set_getD_eq (by simpa using hlt)])
                  conv => whnf
                  exact ⟨rfl, rfl⟩
                · conv => whnf
                  try (refine And.intro ⟨rfl, hL, by simpa using hlt⟩ ?_; conv => whnf; (try rw [Int.toNat_natCast]); rw [hE]; conv => whnf)
                  (refine ACalls.frame [5, 8] (binsert_own ((l.getD p ⟨0, [], []⟩).blocks.map bcC) [bA b] _ q (by simp) (by omega) (by omega)) rfl rfl rfl rfl (by decide) (bltAll rfl) ⟨rfl, rfl, trivial⟩ ?_; rintro _ _ ⟨rfl, rfl⟩)
                  conv => whnf
                  try (refine And.intro ⟨rfl, by first | rfl | (simp; done) | (simp; omega), by first | omega | (simp; omega)⟩ ?_; conv => whnf)
                  (first | rw [hE] | rw [set_getD_eq (by simpa using hlt)])
                  conv => whnf
                  try (refine And.intro ⟨rfl, by first | rfl | (simp; done) | (simp; omega), by first | omega | (simp; omega)⟩ ?_; conv => whnf)
                  (first | rw [hE] | rw [set_getD_eq (by simpa using hlt)])
                  conv => whnf
                  exact ⟨rfl, rfl⟩
            · conv => whnf
              refine Fn.closed (bclone_fn b (by omega)) rfl ?_
              rintro _ rfl
              conv => whnf
              refine And.intro ?_ ?_
              · conv => whnf
                refine And.intro ?_ ?_
                · conv => whnf
                  try (refine And.intro ⟨rfl, hL, by simpa using hlt⟩ ?_; conv => whnf; (try rw [Int.toNat_natCast]); rw [hE]; conv => whnf)
                  (refine ACalls.frame [5, 8] (binsert_own ((l.getD p ⟨0, [], []⟩).blocks.map bcC) [bA b] _ q (by simp) (by omega) (by omega)) rfl rfl rfl rfl (by decide) (bltAll rfl) ⟨rfl, rfl, trivial⟩ ?_; rintro _ _ ⟨rfl, rfl⟩)
                  conv => whnf
                  try (refine And.intro ⟨rfl, by first | rfl | (simp; done) | (simp; omega), by first | omega | (simp; omega)⟩ ?_; conv => whnf)
                  (first | rw [hE] | rw [set_getD_eq (by simpa using hlt)])
                  conv => whnf
                  try (refine And.intro ⟨rfl, by first | rfl | (simp; done) | (simp; omega), by first | omega | (simp; omega)⟩ ?_; conv => whnf)
                  (first | rw [hE] | rw [set_getD_eq (by simpa using hlt)])
                  conv => whnf
                  exact ⟨rfl, rfl⟩
                · conv => whnf
                  try (refine And.intro ⟨rfl, hL, by simpa using hlt⟩ ?_; conv => whnf; (try rw [Int.toNat_natCast]); rw [hE]; conv => whnf)
                  (refine ACalls.frame [5, 8] (binsert_own ((l.getD p ⟨0, [], []⟩).blocks.map bcC) [bA b] _ q (by simp) (by omega) (by omega)) rfl rfl rfl rfl (by decide) (bltAll rfl) ⟨rfl, rfl, trivial⟩ ?_; rintro _ _ ⟨rfl, rfl⟩)
                  conv => whnf
                  try (refine And.intro ⟨rfl, by first | rfl | (simp; done) | (simp; omega), by first | omega | (simp; omega)⟩ ?_; conv => whnf)
                  (first | rw [hE] | rw [set_getD_eq (by simpa using hlt)])
                  conv => whnf
                  try (refine And.intro ⟨rfl, by first | rfl | (simp; done) | (simp; omega), by first | omega | (simp; omega)⟩ ?_; conv => whnf)
                  (first | rw [hE] | rw [set_getD_eq (by simpa using hlt)])
                  conv => whnf
                  exact ⟨rfl, rfl⟩
              · conv => whnf
                try (refine And.intro ⟨rfl, hL, by simpa using hlt⟩ ?_; conv => whnf; (try rw [Int.toNat_natCast]); rw [hE]; conv => whnf)
                (refine ACalls.frame [5, 8] (binsert_own ((l.getD p ⟨0, [], []⟩).blocks.map bcC) [bA b] _ q (by simp) (by omega) (by omega)) rfl rfl rfl rfl (by decide) (bltAll rfl) ⟨rfl, rfl, trivial⟩ ?_; rintro _ _ ⟨rfl, rfl⟩)
                conv => whnf
                try (refine And.intro ⟨rfl, by first | rfl | (simp; done) | (simp; omega), by first | omega | (simp; omega)⟩ ?_; conv => whnf)
                (first | rw [hE] | rw [set_getD_eq (by simpa using hlt)])
                conv => whnf
                try (refine And.intro ⟨rfl, by first | rfl | (simp; done) | (simp; omega), by first | omega | (simp; omega)⟩ ?_; conv => whnf)
                (first | rw [hE] | rw [set_getD_eq (by simpa using hlt)])
                conv => whnf
                exact ⟨rfl, rfl⟩
          · conv => whnf
            refine And.intro ?_ ?_
            · conv => whnf
              (refine ACalls.frame [4, 6] (iinsert_own ((l.getD p ⟨0, [], []⟩).lbas.map icC) [.v (.int .i64 lba)] _ q (by simp) hq (by omega)) rfl rfl rfl rfl (by decide) (bltAll rfl) ⟨rfl, rfl, trivial⟩ ?_; rintro _ _ ⟨rfl, rfl⟩)
              conv => whnf
              refine And.intro ?_ ?_
              · conv => whnf
                try (refine And.intro ⟨rfl, hL, by simpa using hlt⟩ ?_; conv => whnf; (try rw [Int.toNat_natCast]); rw [hE]; conv => whnf)
                refine Fn.closed (bclone_fn b (by omega)) rfl ?_
                rintro _ rfl
                conv => whnf
                (refine ACalls.frame [5, 8] (binsert_own ((l.getD p ⟨0, [], []⟩).blocks.map bcC) [bA b] _ q (by simp) (by omega) (by omega)) rfl rfl rfl rfl (by decide) (bltAll rfl) ⟨rfl, rfl, trivial⟩ ?_; rintro _ _ ⟨rfl, rfl⟩)
                conv => whnf
                try (refine And.intro ⟨rfl, by first | rfl | (simp; done) | (simp; omega), by first | omega | (simp; omega)⟩ ?_; conv => whnf)
                (first | rw [hE] | rw [set_getD_eq (by simpa using hlt)])
                conv => whnf
                try (refine And.intro ⟨rfl, by first | rfl | (simp; done) | (simp; omega), by first | omega | (simp; omega)⟩ ?_; conv => whnf)
                (first | rw [hE] | rw [set_getD_eq (by simpa using hlt)])
                conv => whnf
                exact ⟨rfl, rfl⟩
              · conv => whnf
                refine Fn.closed (bclone_fn b (by omega)) rfl ?_
                rintro _ rfl
                conv => whnf
                refine And.intro ?_ ?_
                · conv => whnf
                  try (refine And.intro ⟨rfl, hL, by simpa using hlt⟩ ?_; conv => whnf; (try rw [Int.toNat_natCast]); rw [hE]; conv => whnf)
                  (refine ACalls.frame [5, 8] (binsert_own ((l.getD p ⟨0, [], []⟩).blocks.map bcC) [bA b] _ q (by simp) (by omega) (by omega)) rfl rfl rfl rfl (by decide) (bltAll rfl) ⟨rfl, rfl, trivial⟩ ?_; rintro _ _ ⟨rfl, rfl⟩)
                  conv => whnf
                  try (refine And.intro ⟨rfl, by first | rfl | (simp; done) | (simp; omega), by first | omega | (simp; omega)⟩ ?_; conv => whnf)
                  (first | rw [hE] | rw [set_getD_eq (by simpa using hlt)])
                  conv => whnf
                  try (refine And.intro ⟨rfl, by first | rfl | (simp; done) | (simp; omega), by first | omega | (simp; omega)⟩ ?_; conv => whnf)
                  (first | rw [hE] | rw [set_getD_eq (by simpa using hlt)])
                  conv => whnf
                  exact ⟨rfl, rfl⟩
                · conv => whnf
                  try (refine And.intro ⟨rfl, hL, by simpa using hlt⟩ ?_; conv => whnf; (try rw [Int.toNat_natCast]); rw [hE]; conv => whnf)
                  (refine ACalls.frame [5, 8] (binsert_own ((l.getD p ⟨0, [], []⟩).blocks.map bcC) [bA b] _ q (by simp) (by omega) (by omega)) rfl rfl rfl rfl (by decide) (bltAll rfl) ⟨rfl, rfl, trivial⟩ ?_; rintro _ _ ⟨rfl, rfl⟩)
                  conv => whnf
                  try (refine And.intro ⟨rfl, by first | rfl | (simp; done) | (simp; omega), by first | omega | (simp; omega)⟩ ?_; conv => whnf)
                  (first | rw [hE] | rw [set_getD_eq (by simpa using hlt)])
                  conv => whnf
                  try (refine And.intro ⟨rfl, by first | rfl | (simp; done) | (simp; omega), by first | omega | (simp; omega)⟩ ?_; conv => whnf)
                  (first | rw [hE] | rw [set_getD_eq (by simpa using hlt)])
                  conv => whnf
                  exact ⟨rfl, rfl⟩
            · conv => whnf
              try (refine And.intro ⟨rfl, hL, by simpa using hlt⟩ ?_; conv => whnf; (try rw [Int.toNat_natCast]); rw [hE]; conv => whnf)
              (refine ACalls.frame [4, 6] (iinsert_own ((l.getD p ⟨0, [], []⟩).lbas.map icC) [.v (.int .i64 lba)] _ q (by simp) hq (by omega)) rfl rfl rfl rfl (by decide) (bltAll rfl) ⟨rfl, rfl, trivial⟩ ?_; rintro _ _ ⟨rfl, rfl⟩)
              conv => whnf
              refine Fn.closed (bclone_fn b (by omega)) rfl ?_
              rintro _ rfl
              conv => whnf
              (refine ACalls.frame [5, 8] (binsert_own ((l.getD p ⟨0, [], []⟩).blocks.map bcC) [bA b] _ q (by simp) (by omega) (by omega)) rfl rfl rfl rfl (by decide) (bltAll rfl) ⟨rfl, rfl, trivial⟩ ?_; rintro _ _ ⟨rfl, rfl⟩)
              conv => whnf
              try (refine And.intro ⟨rfl, by first | rfl | (simp; done) | (simp; omega), by first | omega | (simp; omega)⟩ ?_; conv => whnf)
              (first | rw [hE] | rw [set_getD_eq (by simpa using hlt)])
              conv => whnf
              try (refine And.intro ⟨rfl, by first | rfl | (simp; done) | (simp; omega), by first | omega | (simp; omega)⟩ ?_; conv => whnf)
              (first | rw [hE] | rw [set_getD_eq (by simpa using hlt)])
              conv => whnf
              exact ⟨rfl, rfl⟩
        · conv => whnf
          refine And.intro ?_ ?_
          · conv => whnf
            refine And.intro ?_ ?_
            · conv => whnf
              (refine ACalls.frame [4, 6] (iinsert_own ((l.getD p ⟨0, [], []⟩).lbas.map icC) [.v (.int .i64 lba)] _ q (by simp) hq (by omega)) rfl rfl rfl rfl (by decide) (bltAll rfl) ⟨rfl, rfl, trivial⟩ ?_; rintro _ _ ⟨rfl, rfl⟩)
              conv => whnf
              refine And.intro ?_ ?_
              · conv => whnf
                try (refine And.intro ⟨rfl, hL, by simpa using hlt⟩ ?_; conv => whnf; (try rw [Int.toNat_natCast]); rw [hE]; conv => whnf)
                refine Fn.closed (bclone_fn b (by omega)) rfl ?_
                rintro _ rfl
                conv => whnf
                (refine ACalls.frame [5, 8] (binsert_own ((l.getD p ⟨0, [], []⟩).blocks.map bcC) [bA b] _ q (by simp) (by omega) (by omega)) rfl rfl rfl rfl (by decide) (bltAll rfl) ⟨rfl, rfl, trivial⟩ ?_; rintro _ _ ⟨rfl, rfl⟩)
                conv => whnf
                try (refine And.intro ⟨rfl, by first | rfl | (simp; done) | (simp; omega), by first | omega | (simp; omega)⟩ ?_; conv => whnf)
                (first | rw [hE] | rw [set_getD_eq (by simpa using hlt)])
                conv => whnf
                try (refine And.intro ⟨rfl, by first | rfl | (simp; done) | (simp; omega), by first | omega | (simp; omega)⟩ ?_; conv => whnf)
                (first | rw [hE] | rw [set_getD_eq (by simpa using hlt)])
                conv => whnf
                exact ⟨rfl, rfl⟩
              · conv => whnf
                refine Fn.closed (bclone_fn b (by omega)) rfl ?_
                rintro _ rfl
                conv => whnf
                refine And.intro ?_ ?_
                · conv => whnf
                  try (refine And.intro ⟨rfl, hL, by simpa using hlt⟩ ?_; conv => whnf; (try rw [Int.toNat_natCast]); rw [hE]; conv => whnf)
                  (refine ACalls.frame [5, 8] (binsert_own ((l.getD p ⟨0, [], []⟩).blocks.map bcC) [bA b] _ q (by simp) (by omega) (by omega)) rfl rfl rfl rfl (by decide) (bltAll rfl) ⟨rfl, rfl, trivial⟩ ?_; rintro _ _ ⟨rfl, rfl⟩)
                  conv => whnf
                  try (refine And.intro ⟨rfl, by first | rfl | (simp; done) | (simp; omega), by first | omega | (simp; omega)⟩ ?_; conv => whnf)
                  (first | rw [hE] | rw [set_getD_eq (by simpa using hlt)])
                  conv => whnf
                  try (refine And.intro ⟨rfl, by first | rfl | (simp; done) | (simp; omega), by first | omega | (simp; omega)⟩ ?_; conv => whnf)
                  (first | rw [hE] | rw [set_getD_eq (by simpa using hlt)])
                  conv => whnf
                  exact ⟨rfl, rfl⟩
                · conv => whnf
                  try (refine And.intro ⟨rfl, hL, by simpa using hlt⟩ ?_; conv => whnf; (try rw [Int.toNat_natCast]); rw [hE]; conv => whnf)
                  (refine ACalls.frame [5, 8] (binsert_own ((l.getD p ⟨0, [], []⟩).blocks.map bcC) [bA b] _ q (by simp) (by omega) (by omega)) rfl rfl rfl rfl (by decide) (bltAll rfl) ⟨rfl, rfl, trivial⟩ ?_; rintro _ _ ⟨rfl, rfl⟩)
                  conv => whnf
                  try (refine And.intro ⟨rfl, by first | rfl | (simp; done) | (simp; omega), by first | omega | (simp; omega)⟩ ?_; conv => whnf)
                  (first | rw [hE] | rw [set_getD_eq (by simpa using hlt)])
                  conv => whnf
                  try (refine And.intro ⟨rfl, by first | rfl | (simp; done) | (simp; omega), by first | omega | (simp; omega)⟩ ?_; conv => whnf)
                  (first | rw [hE] | rw [set_getD_eq (by simpa using hlt)])
                  conv => whnf
                  exact ⟨rfl, rfl⟩
            · conv => whnf
              try (refine And.intro ⟨rfl, hL, by simpa using hlt⟩ ?_; conv => whnf; (try rw [Int.toNat_natCast]); rw [hE]; conv => whnf)
              (refine ACalls.frame [4, 6] (iinsert_own ((l.getD p ⟨0, [], []⟩).lbas.map icC) [.v (.int .i64 lba)] _ q (by simp) hq (by omega)) rfl rfl rfl rfl (by decide) (bltAll rfl) ⟨rfl, rfl, trivial⟩ ?_; rintro _ _ ⟨rfl, rfl⟩)
              conv => whnf
              refine Fn.closed (bclone_fn b (by omega)) rfl ?_
              rintro _ rfl
              conv => whnf
              (refine ACalls.frame [5, 8] (binsert_own ((l.getD p ⟨0, [], []⟩).blocks.map bcC) [bA b] _ q (by simp) (by omega) (by omega)) rfl rfl rfl rfl (by decide) (bltAll rfl) ⟨rfl, rfl, trivial⟩ ?_; rintro _ _ ⟨rfl, rfl⟩)
              conv => whnf
              try (refine And.intro ⟨rfl, by first | rfl | (simp; done) | (simp; omega), by first | omega | (simp; omega)⟩ ?_; conv => whnf)
              (first | rw [hE] | rw [set_getD_eq (by simpa using hlt)])
              conv => whnf
              try (refine And.intro ⟨rfl, by first | rfl | (simp; done) | (simp; omega), by first | omega | (simp; omega)⟩ ?_; conv => whnf)
              (first | rw [hE] | rw [set_getD_eq (by simpa using hlt)])
              conv => whnf
              exact ⟨rfl, rfl⟩
          · conv => whnf
            try (refine And.intro ⟨rfl, hL, by simpa using hlt⟩ ?_; conv => whnf; (try rw [Int.toNat_natCast]); rw [hE]; conv => whnf)
            (refine ACalls.frame [4, 6] (iinsert_own ((l.getD p ⟨0, [], []⟩).lbas.map icC) [.v (.int .i64 lba)] _ q (by simp) hq (by omega)) rfl rfl rfl rfl (by decide) (bltAll rfl) ⟨rfl, rfl, trivial⟩ ?_; rintro _ _ ⟨rfl, rfl⟩)
            conv => whnf
            refine Fn.closed (bclone_fn b (by omega)) rfl ?_
            rintro _ rfl
            conv => whnf
            (refine ACalls.frame [5, 8] (binsert_own ((l.getD p ⟨0, [], []⟩).blocks.map bcC) [bA b] _ q (by simp) (by omega) (by omega)) rfl rfl rfl rfl (by decide) (bltAll rfl) ⟨rfl, rfl, trivial⟩ ?_; rintro _ _ ⟨rfl, rfl⟩)
            conv => whnf
            try (refine And.intro ⟨rfl, by first | rfl | (simp; done) | (simp; omega), by first | omega | (simp; omega)⟩ ?_; conv => whnf)
            (first | rw [hE] | rw [set_getD_eq (by simpa using hlt)])
            conv => whnf
            try (refine And.intro ⟨rfl, by first | rfl | (simp; done) | (simp; omega), by first | omega | (simp; omega)⟩ ?_; conv => whnf)
            (first | rw [hE] | rw [set_getD_eq (by simpa using hlt)])
            conv => whnf
            exact ⟨rfl, rfl⟩
    conv => whnf
    refine ⟨_, .tp [.ow 0 l.length, .v (.int .i64 0)], _, fun _ _ h => h, wk_done (hd_done (h' := ⟨(l.getD p ⟨0, [], []⟩).id, (l.getD p ⟨0, [], []⟩).lbas.take q ++ [lba] ++ (l.getD p ⟨0, [], []⟩).lbas.drop q, (l.getD p ⟨0, [], []⟩).blocks.take q ++ [b] ++ (l.getD p ⟨0, [], []⟩).blocks.drop q⟩) (a := 7) (b := 9) hlt (by decide) (by decide) (by
      rw [List.set_set, List.set_set]
      refine congrArg (fun e => some (AB.rowo _ _ ((l.map hdC).set p e) _)) ?_
      show [_, AV.ow 7 _, AV.ow 9 _] = [_, _, _]
      congr 3
      · congr 1
        simp only [List.length_append, List.length_take, List.length_drop, List.length_cons, List.length_nil]; omega
      · congr 2
        simp only [List.length_append, List.length_take, List.length_drop, List.length_cons, List.length_nil]; omega) (by
      rw [List.map_append, List.map_append, List.map_take, List.map_drop]; rfl) (by
      rw [List.map_append, List.map_append, List.map_take, List.map_drop]; rfl)) rfl, rfl, rfl⟩
set_option maxRecDepth 100000 in
theorem hput_fn (l : List Hd) (id lba : Int) (b : List UInt8) (hl : l.length ≤ 1000) (hs : ∀ h ∈ l, HdB h) : Fn Try.prog 9 [hdsA l, .v (.int .i64 id), .v (.int .i64 lba), bA b] fun r => r = .tp [hdsA (putHd l id lba b).1, .v (.int .i64 (putHd l id lba b).2)] := by
  have hc := hcheck_fn l hl (fun h hh => ⟨(hs h hh).1, (hs h hh).2.1⟩)
  have nil2 : ∀ e : Int, SubL [.v (.slice none 0 0), .v (.int .i64 e)] [hdsA [], .v (.int .i64 e)] := fun e => ⟨nil_hds, fun _ _ h => h, trivial⟩
  cases hok : hdsOk l with
  | false =>
    rw [hok] at hc
    refine Fn.of tys_ok Try.func9 rfl rfl (Nat.le_of_ble_eq_true rfl) ?_
    conv => whnf
    refine Fn.closed (hc) rfl ?_
    rintro _ rfl
    conv => whnf
    exact ⟨_, tp_sub (nil2 1), by rw [putHd, hok]; rfl⟩
  | true =>
    rw [hok] at hc
    have ha := hat_fn l id (by omega)
    cases hh : hasH l id with
    | false =>
      rw [hh] at ha
      refine Fn.of tys_ok Try.func9 rfl rfl (Nat.le_of_ble_eq_true rfl) ?_
      conv => whnf
      refine Fn.closed (hc) rfl ?_
      rintro _ rfl
      conv => whnf
      refine Fn.closed (ha) rfl ?_
      rintro _ rfl
      conv => whnf
      exact ⟨_, tp_sub (nil2 18), by rw [putHd, hok, hh]; rfl⟩
    | true =>
      have hlt := atH_lt hh
      by_cases h0 : lba < 0
      · rw [hh, if_pos rfl] at ha
        refine Fn.of tys_ok Try.func9 rfl rfl (Nat.le_of_ble_eq_true rfl) ?_
        conv => whnf
        refine Fn.closed (hc) rfl ?_
        rintro _ rfl
        conv => whnf
        refine Fn.closed (ha) rfl ?_
        rintro _ rfl
        conv => whnf
        refine boolK_intro (fun h3 => ?_) (fun h3 => ?_) <;> simp only [decide_eq_true_eq, decide_eq_false_iff_not] at h3 <;> conv => whnf
        · exact ⟨_, tp_sub (nil2 1), by rw [putHd, hok, hh, decide_eq_true h0]; rfl⟩
        · omega
      by_cases h8 : b.length = 8
      · cases hf : fullH (l.getD (atH l id) ⟨0, [], []⟩) lba with
        | true =>
          rw [hh, if_pos rfl] at ha
          have hfu := full_fn (l.getD (atH l id) ⟨0, [], []⟩) lba (by have := (hdOk_iff.1 (hdOk_of hok hlt)).2.1; omega)
          rw [show (decide (4 ≤ (l.getD (atH l id) ⟨0, [], []⟩).lbas.length) && !(l.getD (atH l id) ⟨0, [], []⟩).lbas.any fun y => lba == y) = true from hf] at hfu
          refine Fn.of tys_ok Try.func9 rfl rfl (Nat.le_of_ble_eq_true rfl) ?_
          conv => whnf
          refine Fn.closed (hc) rfl ?_
          rintro _ rfl
          conv => whnf
          refine Fn.closed (ha) rfl ?_
          rintro _ rfl
          conv => whnf
          refine boolK_intro (fun h3 => ?_) (fun h3 => ?_) <;> simp only [decide_eq_true_eq, decide_eq_false_iff_not] at h3 <;> conv => whnf
          · omega
          refine boolK_intro (fun h4 => ?_) (fun h4 => ?_) <;> conv => whnf
          · rw [h8] at h4; cases h4
          refine ⟨by first | omega | (refine ⟨rfl, ?_, ?_⟩ <;> first | omega | (simp only [List.length_map]; done) | (simp only [List.length_map]; omega)) | (simp only [List.length_map]; omega), ?_⟩
          conv => whnf
          rw [Int.toNat_natCast]
          refine Fn.closed (hfu) rfl ?_
          rintro _ rfl
          conv => whnf
          exact ⟨_, tp_sub (nil2 20), by rw [putHd, hok, hh, decide_eq_false h0, decide_eq_false (by omega), hf]; rfl⟩
        | false =>
          refine (hput_own l id lba b hl hs hok hh h0 h8 hf).fn ?_
          rintro r H ⟨rfl, rfl⟩
          refine ⟨_, ConvH.refl _, ?_⟩
          conv => whnf
          refine And.intro (by simp) ?_
          conv => whnf
          refine ⟨.tp [hdsA (l.set (atH l id) (wrH (l.getD (atH l id) ⟨0, [], []⟩) lba b)), .v (.int .i64 0)], tp_sub ⟨fun c u h => ?_, fun _ _ h => h, trivial⟩, by rw [putHd, hok, hh, decide_eq_false h0, decide_eq_false (by omega), hf]; rfl⟩
          exact sub_map (f := hdC) (d := ⟨0, [], []⟩) (by simp) c u h
      · rw [hh, if_pos rfl] at ha
        refine Fn.of tys_ok Try.func9 rfl rfl (Nat.le_of_ble_eq_true rfl) ?_
        conv => whnf
        refine Fn.closed (hc) rfl ?_
        rintro _ rfl
        conv => whnf
        refine Fn.closed (ha) rfl ?_
        rintro _ rfl
        conv => whnf
        refine boolK_intro (fun h3 => ?_) (fun h3 => ?_) <;> simp only [decide_eq_true_eq, decide_eq_false_iff_not] at h3 <;> conv => whnf
        · omega
        refine boolK_intro (fun h4 => ?_) (fun h4 => ?_) <;> conv => whnf
        · exact ⟨_, tp_sub (nil2 1), by rw [putHd, hok, hh, decide_eq_false h0, decide_eq_true h8]; rfl⟩
        · simp at h4; omega
end Go.Proofs.Ytjcboeldmgmfcaa.A
end

/-
The keep package: rows, handles: compared, made anew.
-/
section
namespace Go.Proofs.Ytjcboeldmgmfcaa.A
open Go.RowKit

theorem ints_fn (a b : List Int) (ha : a.length ≤ 100000000000) : Fn Try.prog 33 [iA a, iA b] fun r => r = .v (.bool (decide (a = b))) := by
  refine Fn.of tys_ok Try.func33 rfl rfl (Nat.le_of_ble_eq_true rfl) ?_
  conv => whnf
  refine boolK_intro (fun h => ?_) (fun h => ?_) <;> conv => whnf
  · exact ⟨_, fun _ _ h => h, by simp at h; rw [decide_eq_false (fun e => h (by rw [e]))]⟩
  simp at h
  refine aLoop.rule Nat (fun k => ([(0, iA a), (1, iA b), (5, .v (.int .i64 k))], [])) (fun k => k ≤ a.length ∧ a.take k = b.take k) (fun k => a.length - k) 0 ⟨Nat.zero_le _, by simp⟩ ⟨[], trivial, ⟨rfl, rfl, rfl, trivial⟩, trivial, rfl, rfl, rfl⟩ ?_
  rintro k ⟨hk, hI⟩
  conv => whnf
  refine boolK_intro (fun h2 => ?_) (fun h2 => ?_) <;> simp at h2 <;> conv => whnf
  · refine aDraw.seq tys_ok mixed (by kernel_rfl) ?_
    conv => whnf
    refine ⟨by first | omega | (refine ⟨rfl, ?_, ?_⟩ <;> first | omega | (simp only [List.length_map]; done) | (simp only [List.length_map]; omega)) | (simp only [List.length_map]; omega), ?_⟩
    conv => whnf
    refine ⟨by first | omega | (refine ⟨rfl, ?_, ?_⟩ <;> first | omega | (simp only [List.length_map]; done) | (simp only [List.length_map]; omega)) | (simp only [List.length_map]; omega), ?_⟩
    conv => whnf
    refine boolK_intro (fun h3 => ?_) (fun h3 => ?_) <;> conv => whnf
    · exact ⟨_, fun _ _ h => h, by rw [decide_eq_false (ne_of_getD (d := 0) (by simpa using h3))]⟩
    · exact ⟨k + 1, ⟨by omega, take_succ_eq (d := 0) hI (by omega) (by omega) (by simpa using h3)⟩, by omega, ⟨[], trivial, ⟨rfl, rfl, wsucc (by omega), trivial⟩, trivial, rfl, rfl, rfl⟩⟩
  · exact ⟨_, fun _ _ h => h, by rw [decide_eq_true (eq_of_take hI (by omega) (by omega))]⟩
theorem rows_fn (a b : List (List UInt8)) (ha : a.length ≤ 100000000000) (hb : ∀ x ∈ a, x.length ≤ 100000000000) : Fn Try.prog 34 [rowsA a, rowsA b] fun r => r = .v (.bool (decide (a = b))) := by
  refine Fn.of tys_ok Try.func34 rfl rfl (Nat.le_of_ble_eq_true rfl) ?_
  conv => whnf
  refine boolK_intro (fun h => ?_) (fun h => ?_) <;> conv => whnf
  · exact ⟨_, fun _ _ h => h, by simp at h; rw [decide_eq_false (fun e => h (by rw [e]))]⟩
  simp at h
  refine aLoop.rule Nat (fun k => ([(0, rowsA a), (1, rowsA b), (5, .v (.int .i64 k))], [])) (fun k => k ≤ a.length ∧ a.take k = b.take k) (fun k => a.length - k) 0 ⟨Nat.zero_le _, by simp⟩ ⟨[], trivial, ⟨rfl, rfl, rfl, trivial⟩, trivial, rfl, rfl, rfl⟩ ?_
  rintro k ⟨hk, hI⟩
  conv => whnf
  refine boolK_intro (fun h2 => ?_) (fun h2 => ?_) <;> simp at h2 <;> conv => whnf
  · refine aDraw.seq tys_ok mixed (by kernel_rfl) ?_
    conv => whnf
    refine ⟨by first | omega | (refine ⟨rfl, ?_, ?_⟩ <;> first | omega | (simp only [List.length_map]; done) | (simp only [List.length_map]; omega)) | (simp only [List.length_map]; omega), ?_⟩
    conv => whnf
    refine ⟨by first | omega | (refine ⟨rfl, ?_, ?_⟩ <;> first | omega | (simp only [List.length_map]; done) | (simp only [List.length_map]; omega)) | (simp only [List.length_map]; omega), ?_⟩
    conv => whnf
    rw [Int.toNat_natCast]
    refine Fn.closed (bytes_fn (a.getD k []) (b.getD k []) (hb _ (getD_mem h2))) rfl ?_
    rintro _ rfl
    conv => whnf
    refine boolK_intro (fun h3 => ?_) (fun h3 => ?_) <;> conv => whnf
    · exact ⟨_, fun _ _ h => h, by rw [decide_eq_false (ne_of_getD (d := []) (by simpa using h3))]⟩
    · exact ⟨k + 1, ⟨by omega, take_succ_eq (d := []) hI (by omega) (by omega) (by simpa using h3)⟩, by omega, ⟨[], trivial, ⟨rfl, rfl, wsucc (by omega), trivial⟩, trivial, rfl, rfl, rfl⟩⟩
  · exact ⟨_, fun _ _ h => h, by rw [decide_eq_true (eq_of_take hI (by omega) (by omega))]⟩
theorem hd_ext {x y : Hd} : x = y ↔ x.id = y.id ∧ x.lbas = y.lbas ∧ x.blocks = y.blocks := by
  cases x; cases y; simp
theorem handles_fn (a b : List Hd) (ha : a.length ≤ 1000) (hs : ∀ h ∈ a, HdB h) : Fn Try.prog 12 [hdsA a, hdsA b] fun r => r = .v (.bool (decide (a = b))) := by
  refine Fn.of tys_ok Try.func12 rfl rfl (Nat.le_of_ble_eq_true rfl) ?_
  conv => whnf
  refine boolK_intro (fun h => ?_) (fun h => ?_) <;> conv => whnf
  · exact ⟨_, fun _ _ h => h, by simp at h; rw [decide_eq_false (fun e => h (by rw [e]))]⟩
  simp at h
  refine aLoop.rule Nat (fun k => ([(0, hdsA a), (1, hdsA b), (5, .v (.int .i64 k))], [])) (fun k => k ≤ a.length ∧ a.take k = b.take k) (fun k => a.length - k) 0 ⟨Nat.zero_le _, by simp⟩ ⟨[], trivial, ⟨rfl, rfl, rfl, trivial⟩, trivial, rfl, rfl, rfl⟩ ?_
  rintro k ⟨hk, hI⟩
  conv => whnf
  refine boolK_intro (fun h2 => ?_) (fun h2 => ?_) <;> simp at h2 <;> conv => whnf
  · have hb := hs _ (getD_mem (d := ⟨0, [], []⟩) h2)
    have c1 := ints_fn (a.getD k ⟨0, [], []⟩).lbas (b.getD k ⟨0, [], []⟩).lbas (by have := hb.1; omega)
    have c2 := rows_fn (a.getD k ⟨0, [], []⟩).blocks (b.getD k ⟨0, [], []⟩).blocks (by have := hb.2.1; omega) (fun x hx => by have := hb.2.2 x hx; omega)
    have done : ∀ t, t = decide (a.getD k ⟨0, [], []⟩ = b.getD k ⟨0, [], []⟩) → (t = false → decide (a = b) = false) ∧ (t = true → a.take (k + 1) = b.take (k + 1)) := fun t e => ⟨fun e2 => decide_eq_false (ne_of_getD (d := ⟨0, [], []⟩) (by rw [e2] at e; simpa using e.symm)), fun e2 => take_succ_eq (d := ⟨0, [], []⟩) hI (by omega) (by omega) (by rw [e2] at e; simpa using e.symm)⟩
    have no : ∀ {P : Prop}, (a.getD k ⟨0, [], []⟩ = b.getD k ⟨0, [], []⟩ → P) → ¬ P → decide (a = b) = false := fun h1 h2 => (done false (decide_eq_false (fun e => h2 (h1 e))).symm).1 rfl
    refine aDraw.seq tys_ok mixed (by kernel_rfl) ?_
    conv => whnf
    refine ⟨by first | omega | (refine ⟨rfl, ?_, ?_⟩ <;> first | omega | (simp only [List.length_map]; done) | (simp only [List.length_map]; omega)) | (simp only [List.length_map]; omega), ?_⟩
    conv => whnf
    refine ⟨by first | omega | (refine ⟨rfl, ?_, ?_⟩ <;> first | omega | (simp only [List.length_map]; done) | (simp only [List.length_map]; omega)) | (simp only [List.length_map]; omega), ?_⟩
    conv => whnf
    refine boolK_intro (fun t1 => ?_) (fun t1 => ?_) <;> (repeat rw [Int.toNat_natCast] at t1) <;> conv => whnf
    · exact ⟨_, fun _ _ h => h, by rw [no (fun e => congrArg Hd.id e) (by simpa using t1)]⟩
    refine ⟨by first | omega | (refine ⟨rfl, ?_, ?_⟩ <;> first | omega | (simp only [List.length_map]; done) | (simp only [List.length_map]; omega)) | (simp only [List.length_map]; omega), ?_⟩
    conv => whnf
    refine ⟨by first | omega | (refine ⟨rfl, ?_, ?_⟩ <;> first | omega | (simp only [List.length_map]; done) | (simp only [List.length_map]; omega)) | (simp only [List.length_map]; omega), ?_⟩
    conv => whnf
    (repeat rw [Int.toNat_natCast])
    refine Fn.closed (c1) rfl ?_
    rintro _ rfl
    conv => whnf
    refine boolK_intro (fun t2 => ?_) (fun t2 => ?_) <;> conv => whnf
    · exact ⟨_, fun _ _ h => h, by rw [no (fun e => congrArg Hd.lbas e) (by simpa using t2)]⟩
    refine ⟨by first | omega | (refine ⟨rfl, ?_, ?_⟩ <;> first | omega | (simp only [List.length_map]; done) | (simp only [List.length_map]; omega)) | (simp only [List.length_map]; omega), ?_⟩
    conv => whnf
    refine ⟨by first | omega | (refine ⟨rfl, ?_, ?_⟩ <;> first | omega | (simp only [List.length_map]; done) | (simp only [List.length_map]; omega)) | (simp only [List.length_map]; omega), ?_⟩
    conv => whnf
    (repeat rw [Int.toNat_natCast])
    refine Fn.closed (c2) rfl ?_
    rintro _ rfl
    conv => whnf
    refine boolK_intro (fun t3 => ?_) (fun t3 => ?_) <;> conv => whnf
    · exact ⟨_, fun _ _ h => h, by rw [no (fun e => congrArg Hd.blocks e) (by simpa using t3)]⟩
    · exact ⟨k + 1, ⟨by omega, (done true (decide_eq_true (hd_ext.2 ⟨by simpa using t1, by simpa using t2, by simpa using t3⟩)).symm).2 rfl⟩, by omega, ⟨[], trivial, ⟨rfl, rfl, wsucc (by omega), trivial⟩, trivial, rfl, rfl, rfl⟩⟩
  · exact ⟨_, fun _ _ h => h, by rw [decide_eq_true (eq_of_take hI (by omega) (by omega))]⟩
/-- Bytes of a row of the caller's own are written over. -/
theorem over_own (b : List UInt8) (hb : b.length ≤ 1000000) : ACalls Try.prog false 20 [.ow 0 b.length] [.row 5 1 (b.map by1)] fun r H => r = .tp [] ∧ H = [.dead] := by
  refine ACalls.ofC tys_ok Try.func20 rfl rfl (Nat.le_of_ble_eq_true rfl) ?_
  conv => whnf
  refine aLoop.ruleC (Nat × List Int) (fun x => ([(0, .ow 0 b.length), (2, .v (.int .i64 x.1))], [.row 5 1 (x.2.map fun y => [.v (.int .u8 y)])])) (fun x => x.2.length = b.length) (fun x => b.length - x.1) (0, b.map fun y => (y.toNat : Int)) (by simp) (Wk.conv ⟨[], trivial, ⟨rfl, rfl, trivial⟩, ⟨by simp [by1], trivial⟩, rfl, rfl, rfl⟩) ?_
  rintro ⟨k, m⟩ hm
  simp only at hm
  conv => whnf
  refine boolI (fun h2 => ?_) (fun h2 => ?_) <;> (repeat rw [Int.toNat_natCast] at h2) <;> conv => whnf
  · have h2' : k < b.length := by simpa using h2
    have hE : (m.map fun y => [AV.v (.int .u8 y)]).getD k [] = [.v (.int .u8 (m.getD k 0))] := map_getD (by omega)
    refine And.intro ⟨by simp, by simpa using h2'⟩ ?_
    conv => whnf
    refine And.intro ⟨rfl, by simp [hm], by simpa using h2'⟩ ?_
    conv => whnf
    rw [show (((k, m).1 : Int)).toNat = k from Int.toNat_natCast k, hE]
    conv => whnf
    refine And.intro ⟨by simp, by simpa using h2'⟩ ?_
    conv => whnf
    refine And.intro ⟨rfl, by simp [hm], by simpa using h2'⟩ ?_
    conv => whnf
    rw [show (((k, m).1 : Int)).toNat = k from Int.toNat_natCast k, hE]
    conv => whnf
    refine ⟨(k + 1, m.set k (IntKind.u8.wrap (m.getD k 0 + 91))), by simpa using hm, by show b.length - (k + 1) < b.length - k; omega, Wk.conv ⟨[], trivial, ⟨rfl, wsucc (by omega), trivial⟩, ⟨?_, trivial⟩, rfl, rfl, rfl⟩⟩
    exact congrArg (AB.row _ _) List.map_set
  · exact ⟨_, .tp [], [.dead], fun _ _ h => h, Wk.conv ⟨[], trivial, ⟨rfl, trivial⟩, trivial, rfl, rfl, rfl⟩, rfl, rfl⟩
theorem twinints_own (l : List Int) (hl : l.length ≤ 1000000) : ACalls Try.prog false 22 [iA l] [] fun r H => r = .ow 0 l.length ∧ H = [.rowo 3 1 (l.map icC) 0] := by
  refine ACalls.ofC tys_ok Try.func22 rfl rfl (Nat.le_of_ble_eq_true rfl) ?_
  conv => whnf
  refine And.intro (by omega) ?_
  conv => whnf
  exact ⟨.ow 0 l.length, .ow 0 l.length, [.rowo 3 1 (l.map icC) 0], fun _ _ h => h, ⟨_, ConvH.rowo (k := 0) rfl, [], trivial, ⟨rfl, trivial⟩, ⟨congrArg (fun e => AB.rowo _ _ e 0) (range_map (d := 0) icC l).symm, trivial⟩, rfl, rfl, rfl⟩, rfl, rfl⟩
theorem twinrows_own (l : List (List UInt8)) (hl : l.length ≤ 1000000) (hb : ∀ x ∈ l, x.length ≤ 1000000) : ACalls Try.prog false 23 [rowsA l] [] fun r H => r = .ow 0 l.length ∧ H = [.rowo 23 1 (l.map bcC) 0] := by
  refine ACalls.ofC tys_ok Try.func23 rfl rfl (Nat.le_of_ble_eq_true rfl) ?_
  conv => whnf
  refine aLoop.rule Nat (fun k => ([(0, rowsA l), (3, .ow 0 k), (4, .v (.int .i64 k))], [.row 23 1 ((l.take k).map bcC)])) (fun k => k ≤ l.length) (fun k => l.length - k) 0 (Nat.zero_le _) ⟨[(3, 23, 1)], ⟨rfl, rfl, trivial⟩, ⟨rfl, rfl, rfl, trivial⟩, ⟨rfl, trivial⟩, rfl, rfl, rfl⟩ ?_
  rintro k hk
  conv => whnf
  refine boolI (fun h2 => ?_) (fun h2 => ?_) <;> (repeat rw [Int.toNat_natCast] at h2) <;> conv => whnf
  · refine ⟨by first | omega | (refine ⟨rfl, ?_, ?_⟩ <;> first | omega | (simp only [List.length_map]; done) | (simp only [List.length_map]; omega)) | (simp only [List.length_map]; omega), ?_⟩
    conv => whnf
    rw [Int.toNat_natCast]
    refine Fn.closed (twin_fn (l.getD k []) (by have := hb _ (getD_mem (d := []) (show k < l.length by omega)); omega)) rfl ?_
    rintro _ rfl
    conv => whnf
    refine And.intro rfl ?_
    conv => whnf
    refine And.intro ⟨by simp; omega, by omega⟩ ?_
    conv => whnf
    refine ⟨k + 1, by omega, by omega, [], trivial, ⟨rfl, rfl, wsucc (by omega), trivial⟩, ⟨?_, trivial⟩, rfl, rfl, rfl⟩
    exact congrArg (AB.row _ _) (take_map_succ (d := []) (f := bcC) (by omega))
  · have e : k = l.length := by omega
    subst e
    rw [List.take_length]
    exact ⟨_, .ow 0 l.length, [.rowo 23 1 (l.map bcC) 0], fun _ _ h => h, ⟨_, ConvH.rowo (k := 0) rfl, [], trivial, ⟨rfl, trivial⟩, ⟨rfl, trivial⟩, rfl, rfl, rfl⟩, rfl, rfl⟩
/-- What is made is given up for reading at once. -/
theorem rowo_fn {P : Program} {f : FuncId} {args : List AV} {t : TypeId} {sz n : Nat} {es : List (List AV)} {x : AV} (h : ACalls P false f args [] fun r H => r = .ow 0 n ∧ H = [.rowo t sz es 0]) (hn : n = es.length) (hlt : AV.ltL es.flatten 0 = true) (hx : ∀ c v, Rd (.sl sz n fun i => es.getD i []) c v → Rd x c v) : Fn P f args fun r => r = x := by
  refine h.fn ?_
  rintro r H ⟨rfl, rfl⟩
  refine ⟨_, ConvH.row (k := 0) rfl hlt, ?_⟩
  conv => whnf
  refine And.intro hn ?_
  conv => whnf
  exact ⟨x, hx, rfl⟩
theorem ic_lt (l : List Int) : AV.ltL (l.map icC).flatten 0 = true := by
  rw [ltL_iff]; intro x hx
  obtain ⟨e, he, hxe⟩ := List.mem_flatten.1 hx
  obtain ⟨h, _, rfl⟩ := List.mem_map.1 he
  simp only [icC, List.mem_cons, List.not_mem_nil, or_false] at hxe
  subst hxe; rfl
theorem bc_lt (l : List (List UInt8)) : AV.ltL (l.map bcC).flatten 0 = true := by
  rw [ltL_iff]; intro x hx
  obtain ⟨e, he, hxe⟩ := List.mem_flatten.1 hx
  obtain ⟨h, _, rfl⟩ := List.mem_map.1 he
  simp only [bcC, List.mem_cons, List.not_mem_nil, or_false] at hxe
  subst hxe; rfl
theorem twinints_fn (l : List Int) (hl : l.length ≤ 1000000) : Fn Try.prog 22 [iA l] fun r => r = iA l :=
  rowo_fn (twinints_own l hl) (by simp) (ic_lt l) fun c v h => sub_map (f := icC) (d := 0) rfl c v h
theorem twinrows_fn (l : List (List UInt8)) (hl : l.length ≤ 1000000) (hb : ∀ x ∈ l, x.length ≤ 1000000) : Fn Try.prog 23 [rowsA l] fun r => r = rowsA l :=
  rowo_fn (twinrows_own l hl hb) (by simp) (bc_lt l) fun c v h => sub_map (f := bcC) (d := []) rfl c v h
set_option maxRecDepth 100000 in
theorem twinhandles_own (l : List Hd) (hl : l.length ≤ 1000) (hs : ∀ h ∈ l, HdB h) : ACalls Try.prog false 7 [hdsA l] [] fun r H => r = .ow 0 l.length ∧ H = [.row 36 3 (l.map hdC)] := by
  refine ACalls.ofC tys_ok Try.func7 rfl rfl (Nat.le_of_ble_eq_true rfl) ?_
  conv => whnf
  refine aLoop.rule Nat (fun k => ([(0, hdsA l), (3, .ow 0 k), (4, .v (.int .i64 k))], [.row 36 3 ((l.take k).map hdC)])) (fun k => k ≤ l.length) (fun k => l.length - k) 0 (Nat.zero_le _) ⟨[(3, 36, 3)], ⟨rfl, rfl, trivial⟩, ⟨rfl, rfl, rfl, trivial⟩, ⟨rfl, trivial⟩, rfl, rfl, rfl⟩ ?_
  rintro k hk
  conv => whnf
  refine boolI (fun h2 => ?_) (fun h2 => ?_) <;> (repeat rw [Int.toNat_natCast] at h2) <;> conv => whnf
  · have hb := hs _ (getD_mem (d := ⟨0, [], []⟩) (show k < l.length by omega))
    have hkl : k < l.length := by omega
    apply aDraw.tree tys_ok mixed (.one 0 (.one 1 (.one 2 (.one 3 (.one 4 (.one 5 (.one 6 (.one 7 (.one 8 (.one 9 (.one 10 (.one 12 (.one 13 (.one 14 (.one 15 (.one 16 (.one 11 (.one 17 (.one 18 (.one 19 (.one 20 (.one 21 .fin)))))))))))))))))))))) [3, 11, 12, 13, 14, 15, 16, 17, 18, 19, 20, 21, 22, 23, 24, 25, 26, 27, 28, 29, 30, 31] (by kernel_rfl)
    · conv => whnf
      try (refine And.intro (by first | omega | (simp; done)) ?_; conv => whnf)
      try (refine And.intro (by first | omega | (simp; done)) ?_; conv => whnf)
      try (refine And.intro (by first | omega | (simp; done)) ?_; conv => whnf)
      (rw [Int.toNat_natCast]; refine Fn.closed (twinints_fn (l.getD k ⟨0, [], []⟩).lbas (by have := hb.1; omega)) rfl ?_; rintro _ rfl)
      conv => whnf
      ((try rw [Int.toNat_natCast]); refine Fn.closed (twinrows_fn (l.getD k ⟨0, [], []⟩).blocks (by have := hb.2.1; omega) hb.2.2) rfl ?_; rintro _ rfl)
      conv => whnf
      try (refine And.intro (by first | rfl | omega) ?_; conv => whnf)
      try (refine And.intro (by first | omega | exact ⟨by first | rfl | (simp; done) | (simp; omega), by omega⟩) ?_; conv => whnf)
      exact ⟨rfl, rfl⟩
    conv => whnf
    refine ⟨k + 1, by omega, by omega, [], trivial, ⟨rfl, rfl, wsucc (by omega), trivial⟩, ⟨?_, trivial⟩, rfl, rfl, rfl⟩
    rw [take_map_succ (d := (⟨0, [], []⟩ : Hd)) hkl]; rfl
  · have e : k = l.length := by omega
    subst e
    rw [List.take_length]
    exact ⟨_, .ow 0 l.length, [.row 36 3 (l.map hdC)], fun _ _ h => h, Wk.conv ⟨[], trivial, ⟨rfl, trivial⟩, ⟨rfl, trivial⟩, rfl, rfl, rfl⟩, rfl, rfl⟩
theorem twinhandles_fn (l : List Hd) (hl : l.length ≤ 1000) (hs : ∀ h ∈ l, HdB h) : Fn Try.prog 7 [hdsA l] fun r => r = hdsA l := by
  refine (twinhandles_own l hl hs).fn ?_
  rintro r H ⟨rfl, rfl⟩
  refine ⟨_, ConvH.refl _, ?_⟩
  conv => whnf
  refine And.intro (by simp) ?_
  conv => whnf
  exact ⟨hdsA l, fun c v h => sub_map (f := hdC) (d := ⟨0, [], []⟩) rfl c v h, rfl⟩
theorem ren_rowo {f : Nat → Nat} {t : TypeId} {sz : Nat} {es : List (List AV)} (h : AV.ltL es.flatten 0 = true) : AB.rowo t sz es 0 = (AB.rowo t sz es 0).ren f := by
  show _ = AB.rowo t sz (es.map (AV.renL f)) (rbd f 0)
  have : es.map (AV.renL f) = es := by
    refine List.ext_getElem (by simp) fun i h1 h2 => ?_
    rw [List.getElem_map]
    exact AV.renL_id _ (ltL_iff.2 fun x hx => ltL_iff.1 h x (List.mem_flatten.2 ⟨_, List.getElem_mem h2, hx⟩))
  rw [this]; rfl
/-- Twins, one of them in rows of the caller's own (kept). -/
def tkB (l : List Hd) (i : Nat) (k : Nat) : List AB := [.rowo 36 3 (((l.take k).map hdC).set i (owC (l.getD i ⟨0, [], []⟩) 1 2)) 3, .rowo 3 1 ((l.getD i ⟨0, [], []⟩).lbas.map icC) 0, .rowo 23 1 ((l.getD i ⟨0, [], []⟩).blocks.map bcC) 0]
def tkH (l : List Hd) (i k : Nat) : Bool → List AB
  | false => [.rowo 36 3 ((l.take k).map hdC) 0]
  | true => tkB l i k
set_option maxRecDepth 100000 in
theorem twinhandlesI_own (l : List Hd) (i : Nat) (hi : i < l.length) (hl : l.length ≤ 1000) (hs : ∀ h ∈ l, HdB h) : ACalls Try.prog false 7 [hdsA l] [] fun r H => r = .ow 0 l.length ∧ H = tkB l i l.length := by
  refine ACalls.ofC tys_ok Try.func7 rfl rfl (Nat.le_of_ble_eq_true rfl) ?_
  conv => whnf
  refine aLoop.ruleC (Nat × Bool) (fun k => ([(0, hdsA l), (3, .ow 0 k.1), (4, .v (.int .i64 k.1))], tkH l i k.1 k.2)) (fun k => k.1 ≤ l.length ∧ (k.2 = false → k.1 ≤ i) ∧ (k.2 = true → i < k.1)) (fun k => l.length - k.1) (0, false) ⟨Nat.zero_le _, fun _ => Nat.zero_le _, fun h => by cases h⟩ ⟨_, ConvH.refl _, [(3, 36, 3)], ⟨rfl, rfl, trivial⟩, ⟨rfl, rfl, rfl, trivial⟩, ⟨⟨⟨rfl, rfl⟩, rfl⟩, trivial⟩, rfl, rfl, rfl⟩ ?_
  rintro ⟨k, b⟩ ⟨hk, hf, ht⟩
  simp only at hk hf ht
  cases b with
  | false =>
    have hki := hf rfl
    conv => whnf
    refine boolI (fun h2 => ?_) (fun h2 => ?_) <;> (repeat rw [Int.toNat_natCast] at h2) <;> conv => whnf
    · have hkl : k < l.length := by simpa using h2
      have hb := hs _ (getD_mem (d := ⟨0, [], []⟩) hkl)
      by_cases e : k = i
      · subst e
        apply aDraw.treeM (0) tys_ok mixed (.one 0 (.one 1 (.one 2 (.one 3 (.one 4 (.one 5 (.one 6 (.one 7 (.one 8 (.one 9 (.one 10 (.one 12 (.one 13 (.one 14 (.one 15 (.one 16 (.one 11 (.one 17 (.one 18 (.one 19 (.one 20 (.one 21 .fin)))))))))))))))))))))) [3, 11, 12, 13, 14, 15, 16, 17, 18, 19, 20, 21, 22, 23, 24, 25, 26, 27, 28, 29, 30, 31] (by kernel_rfl)
        · conv => whnf
          try (refine And.intro (by first | omega | (simp; done)) ?_; conv => whnf)
          try (refine And.intro (by first | omega | (simp; done)) ?_; conv => whnf)
          try (refine And.intro (by first | omega | (simp; done)) ?_; conv => whnf)
          ((try rw [Int.toNat_natCast]); refine ACalls.beside (twinints_own (l.getD k ⟨0, [], []⟩).lbas (by have := hb.1; omega)) rfl ?_; rintro _ _ ⟨rfl, rfl⟩)
          conv => whnf
          ((try rw [Int.toNat_natCast]); refine ACalls.beside (twinrows_own (l.getD k ⟨0, [], []⟩).blocks (by have := hb.2.1; omega) hb.2.2) rfl ?_; rintro _ _ ⟨rfl, rfl⟩)
          conv => whnf
          try (refine And.intro (by first | rfl | omega) ?_; conv => whnf)
          try (refine And.intro (by first | omega | exact ⟨by first | rfl | (simp; done) | (simp; omega), by omega⟩) ?_; conv => whnf)
          exact ⟨rfl, rfl⟩
        conv => whnf
        have hlast : ((l.take (k + 1)).map hdC).set k (owC (l.getD k ⟨0, [], []⟩) 1 2) = (l.take k).map hdC ++ [owC (l.getD k ⟨0, [], []⟩) 1 2] := by
          rw [take_map_succ (d := (⟨0, [], []⟩ : Hd)) hkl, List.set_append_right _ _ (by rw [List.length_map, List.length_take]; omega)]
          rw [show k - ((l.take k).map hdC).length = 0 by simp; omega]; rfl
        refine ⟨(k + 1, true), ⟨hkl, fun h => (by cases h), fun _ => Nat.lt_succ_self _⟩, by show l.length - (k + 1) < l.length - k; omega, Wk.conv ⟨[], trivial, ⟨rfl, rfl, wsucc (by omega), trivial⟩, ⟨?_, ren_rowo (ic_lt _), ren_rowo (bc_lt _), trivial⟩, rfl, rfl, rfl⟩⟩
        exact congrArg (fun e => AB.rowo _ _ e _) hlast
      · apply aDraw.treeM (0) tys_ok mixed (.one 0 (.one 1 (.one 2 (.one 3 (.one 4 (.one 5 (.one 6 (.one 7 (.one 8 (.one 9 (.one 10 (.one 12 (.one 13 (.one 14 (.one 15 (.one 16 (.one 11 (.one 17 (.one 18 (.one 19 (.one 20 (.one 21 .fin)))))))))))))))))))))) [3, 11, 12, 13, 14, 15, 16, 17, 18, 19, 20, 21, 22, 23, 24, 25, 26, 27, 28, 29, 30, 31] (by kernel_rfl)
        · conv => whnf
          try (refine And.intro (by first | omega | (simp; done)) ?_; conv => whnf)
          try (refine And.intro (by first | omega | (simp; done)) ?_; conv => whnf)
          try (refine And.intro (by first | omega | (simp; done)) ?_; conv => whnf)
          ((try rw [Int.toNat_natCast]); refine Fn.closed (twinints_fn (l.getD k ⟨0, [], []⟩).lbas (by have := hb.1; omega)) rfl ?_; rintro _ rfl)
          conv => whnf
          ((try rw [Int.toNat_natCast]); refine Fn.closed (twinrows_fn (l.getD k ⟨0, [], []⟩).blocks (by have := hb.2.1; omega) hb.2.2) rfl ?_; rintro _ rfl)
          conv => whnf
          try (refine And.intro (by first | rfl | omega) ?_; conv => whnf)
          try (refine And.intro (by first | omega | exact ⟨by first | rfl | (simp; done) | (simp; omega), by omega⟩) ?_; conv => whnf)
          exact ⟨rfl, rfl⟩
        conv => whnf
        refine ⟨(k + 1, false), ⟨hkl, fun _ => by show k + 1 ≤ i; omega, fun h => (by cases h)⟩, by show l.length - (k + 1) < l.length - k; omega, Wk.conv ⟨[], trivial, ⟨rfl, rfl, wsucc (by omega), trivial⟩, ⟨?_, trivial⟩, rfl, rfl, rfl⟩⟩
        exact congrArg (fun e => AB.rowo _ _ e _) (take_map_succ (d := (⟨0, [], []⟩ : Hd)) (f := hdC) hkl)
    · simp at h2; omega
  | true =>
    have hki := ht rfl
    conv => whnf
    refine boolI (fun h2 => ?_) (fun h2 => ?_) <;> (repeat rw [Int.toNat_natCast] at h2) <;> conv => whnf
    · have hkl : k < l.length := by simpa using h2
      have hb := hs _ (getD_mem (d := ⟨0, [], []⟩) hkl)
      apply aDraw.treeM (0) tys_ok mixed (.one 0 (.one 1 (.one 2 (.one 3 (.one 4 (.one 5 (.one 6 (.one 7 (.one 8 (.one 9 (.one 10 (.one 12 (.one 13 (.one 14 (.one 15 (.one 16 (.one 11 (.one 17 (.one 18 (.one 19 (.one 20 (.one 21 .fin)))))))))))))))))))))) [3, 11, 12, 13, 14, 15, 16, 17, 18, 19, 20, 21, 22, 23, 24, 25, 26, 27, 28, 29, 30, 31] (by kernel_rfl)
      · conv => whnf
        try (refine And.intro (by first | omega | (simp; done)) ?_; conv => whnf)
        try (refine And.intro (by first | omega | (simp; done)) ?_; conv => whnf)
        try (refine And.intro (by first | omega | (simp; done)) ?_; conv => whnf)
        ((try rw [Int.toNat_natCast]); refine Fn.closed (twinints_fn (l.getD k ⟨0, [], []⟩).lbas (by have := hb.1; omega)) rfl ?_; rintro _ rfl)
        conv => whnf
        ((try rw [Int.toNat_natCast]); refine Fn.closed (twinrows_fn (l.getD k ⟨0, [], []⟩).blocks (by have := hb.2.1; omega) hb.2.2) rfl ?_; rintro _ rfl)
        conv => whnf
        try (refine And.intro (by first | rfl | omega) ?_; conv => whnf)
        try (refine And.intro (by first | omega | exact ⟨by first | rfl | (simp; done) | (simp; omega), by omega⟩) ?_; conv => whnf)
        exact ⟨rfl, rfl⟩
      conv => whnf
      refine ⟨(k + 1, true), ⟨hkl, fun h => (by cases h), fun _ => by show i < k + 1; omega⟩, by show l.length - (k + 1) < l.length - k; omega, Wk.conv ⟨[], trivial, ⟨rfl, rfl, wsucc (by omega), trivial⟩, ⟨?_, rfl, rfl, trivial⟩, rfl, rfl, rfl⟩⟩
      refine congrArg (fun e => AB.rowo _ _ e _) (?_ : ((l.take (k + 1)).map hdC).set i (owC (l.getD i ⟨0, [], []⟩) 1 2) = ((l.take k).map hdC).set i (owC (l.getD i ⟨0, [], []⟩) 1 2) ++ [hdC (l.getD k ⟨0, [], []⟩)])
      rw [take_map_succ (d := (⟨0, [], []⟩ : Hd)) hkl, List.set_append_left _ _ (by simp; omega)]
    · have e : k = l.length := by have : l.length ≤ k := by simpa using h2
                                  omega
      subst e
      exact ⟨_, .ow 0 l.length, tkB l i l.length, fun _ _ h => h, Wk.conv ⟨[], trivial, ⟨rfl, trivial⟩, ⟨rfl, rfl, rfl, trivial⟩, rfl, rfl, rfl⟩, rfl, rfl⟩
end Go.Proofs.Ytjcboeldmgmfcaa.A
end

/-
The reference's handles.
-/
section
namespace Go.Proofs.Ytjcboeldmgmfcaa.A
open Go.RowKit

def inB (n lo hi : Int) : Bool := decide (lo ≤ n) && decide (n ≤ hi)
theorem rin_fn (n lo hi : Int) : Fn Try.prog 35 [.v (.int .i64 n), .v (.int .i64 lo), .v (.int .i64 hi)] fun r => r = .v (.bool (inB n lo hi)) := by
  refine Fn.of tys_ok Try.func35 rfl rfl (Nat.le_of_ble_eq_true rfl) ?_
  conv => whnf
  repeat' (first | (refine boolK_intro (fun h => ?_) (fun h => ?_) <;> (try simp at h) <;> conv => whnf) | (refine aDraw.seq tys_ok mixed (by kernel_rfl) ?_; conv => whnf) | (refine aSeq.go ?_; conv => whnf) | (refine And.intro (by omega) ?_; conv => whnf))
  all_goals exact ⟨_, fun _ _ h => h, by simp [inB, *] <;> omega⟩
theorem rrising_fn (l : List Int) (hl : l.length ≤ 1000) : Fn Try.prog 36 [iA l] fun r => r = .v (.bool (ris l)) := by
  refine Fn.of tys_ok Try.func36 rfl rfl (Nat.le_of_ble_eq_true rfl) ?_
  conv => whnf
  refine aLoop.rule Nat (fun k => ([(0, iA l), (3, .v (.int .i64 k))], [])) (fun k => k ≤ l.length ∧ (List.range k).all (risK l) = true) (fun k => l.length - k) 0 ⟨Nat.zero_le _, by simp⟩ ⟨[], trivial, ⟨rfl, rfl, trivial⟩, trivial, rfl, rfl, rfl⟩ ?_
  rintro k ⟨hk, hI⟩
  conv => whnf
  refine boolK_intro (fun h2 => ?_) (fun h2 => ?_) <;> simp at h2 <;> conv => whnf
  · have e0 : ∀ b, risK l k = b → b = false → ris l = false := fun b e1 e2 => allR_no h2 (by rw [e1, e2])
    have wr : ∀ b, risK l k = b → b = true → (List.range (k + 1)).all (risK l) = true := fun b e1 e2 => by rw [allR_succ, hI, e1, e2]; rfl
    refine aDraw.of tys_ok mixed [0, 1, 2, 3, 4, 5, 6, 7, 8, 9, 10, 11, 12, 13, 14, 15, 16, 17, 18, 19, 20] (by kernel_rfl) ?_
    conv => whnf
    refine ⟨by first | omega | (refine ⟨rfl, ?_, ?_⟩ <;> first | omega | (simp only [List.length_map]; done) | (simp only [List.length_map]; omega)) | (simp only [List.length_map]; omega), ?_⟩
    conv => whnf
    refine boolK_intro (fun h3 => ?_) (fun h3 => ?_) <;> conv => whnf
    · exact ⟨_, fun _ _ h => h, by rw [e0 _ rfl (by simp only [Int.toNat_natCast, decide_eq_true_eq] at h3; rw [risK, decide_eq_false (show ¬ 0 ≤ l.getD k 0 by omega), Bool.false_and])]⟩
    refine boolK_intro (fun h4 => ?_) (fun h4 => ?_) <;> conv => whnf
    · simp only [Int.toNat_natCast, decide_eq_true_eq, decide_eq_false_iff_not] at h3 h4
      have w1 : IntKind.i64.wrap ((k : Int) - 1) = ((k - 1 : Nat) : Int) := by rw [wi (by omega)]; omega
      refine ⟨by first | omega | (refine ⟨rfl, ?_, ?_⟩ <;> first | omega | (simp only [List.length_map]; done) | (simp only [List.length_map]; omega)) | (simp only [List.length_map]; omega), ?_⟩
      conv => whnf
      refine ⟨by rw [w1]; constructor <;> omega, ?_⟩
      conv => whnf
      rw [w1]
      refine boolK_intro (fun h5 => ?_) (fun h5 => ?_) <;> conv => whnf
      · exact ⟨_, fun _ _ h => h, by
          simp only [Int.toNat_natCast, decide_eq_true_eq] at h5
          rw [e0 _ rfl]
          have : ¬ k = 0 := by omega
          simp [risK, this] ; intro _; simpa using h5⟩
      · simp only [Int.toNat_natCast, decide_eq_false_iff_not] at h5
        exact ⟨k + 1, ⟨by omega, wr _ rfl (by simp [risK]; simp at h3 h5; omega)⟩, by omega, [], trivial, ⟨rfl, wsucc (by omega), trivial⟩, trivial, rfl, rfl, rfl⟩
    · simp only [Int.toNat_natCast, decide_eq_false_iff_not] at h3 h4
      have : k = 0 := by omega
      exact ⟨k + 1, ⟨by omega, wr _ rfl (by simp at h3; simp [risK, this]; simpa [this] using h3)⟩, by omega, [], trivial, ⟨rfl, wsucc (by omega), trivial⟩, trivial, rfl, rfl, rfl⟩
  · exact ⟨_, fun _ _ h => h, by have : k = l.length := by omega
                                 rw [this] at hI; rw [ris, hI]⟩
theorem rat_fn (l : List Hd) (id : Int) (hl : l.length ≤ 1000000) : Fn Try.prog 17 [hdsA l, .v (.int .i64 id)] fun r => r = .v (.int .i64 (if hasH l id then (atH l id : Nat) else -1 : Int)) := by
  have key : Fn Try.prog 17 [hdsA l, .v (.int .i64 id)] fun r => r = .v (.int .i64 (ixI (fun h : Hd => h.id == id) l)) := by
    refine Fn.of tys_ok Try.func17 rfl rfl (Nat.le_of_ble_eq_true rfl) ?_
    conv => whnf
    refine aLoop.rule Nat (fun k => ([(0, hdsA l), (1, .v (.int .i64 id)), (5, .v (.int .i64 k))], [])) (fun k => k ≤ l.length ∧ (l.take k).any (fun h => h.id == id) = false) (fun k => l.length - k) 0 ⟨Nat.zero_le _, by simp⟩ ⟨[], trivial, ⟨rfl, rfl, rfl, trivial⟩, trivial, rfl, rfl, rfl⟩ ?_
    rintro k ⟨hk, hI⟩
    conv => whnf
    refine boolK_intro (fun h2 => ?_) (fun h2 => ?_) <;> simp at h2 <;> conv => whnf
    · refine ⟨by first | omega | (refine ⟨rfl, ?_, ?_⟩ <;> first | omega | (simp only [List.length_map]; done) | (simp only [List.length_map]; omega)) | (simp only [List.length_map]; omega), ?_⟩
      conv => whnf
      refine boolK_intro (fun h3 => ?_) (fun h3 => ?_) <;> (repeat rw [Int.toNat_natCast] at h3) <;> conv => whnf
      · exact ⟨_, fun _ _ h => h, by rw [ixI_hit (d := ⟨0, [], []⟩) h2 hI h3]⟩
      · exact ⟨k + 1, ⟨by omega, any_take_succ (d := ⟨0, [], []⟩) h2 hI h3⟩, by omega, [], trivial, ⟨rfl, rfl, wsucc (by omega), trivial⟩, trivial, rfl, rfl, rfl⟩
    · exact ⟨_, fun _ _ h => h, by rw [List.take_of_length_le h2] at hI; rw [ixI_none hI]⟩
  refine key.mono ?_
  rintro _ rfl
  cases h : hasH l id with
  | true => rw [(ixI_lt h).1]; rfl
  | false => rw [ixI_none h]; rfl
def rdK (l : List Hd) (i : Nat) : Bool := inB (l.getD i ⟨0, [], []⟩).id 0 99 && ((decide (i = 0) || decide ((l.getD (i - 1) ⟨0, [], []⟩).id < (l.getD i ⟨0, [], []⟩).id)) && hdOk (l.getD i ⟨0, [], []⟩))
theorem inB_iff {n lo hi : Int} : inB n lo hi = true ↔ lo ≤ n ∧ n ≤ hi := by simp [inB]
theorem all_range {α : Type} {d : α} {p : α → Bool} {l : List α} : l.all p = (List.range l.length).all fun i => p (l.getD i d) := by
  rw [Bool.eq_iff_iff, List.all_eq_true, List.all_eq_true]
  constructor
  · intro h i hi; exact h _ (getD_mem (List.mem_range.1 hi))
  · intro h x hx
    obtain ⟨i, hi, rfl⟩ := List.mem_iff_getElem.1 hx
    have := h i (List.mem_range.2 hi)
    rwa [List.getD_eq_getElem?_getD, List.getElem?_eq_getElem hi] at this
theorem hdsOk_eq (l : List Hd) : hdsOk l = (decide (l.length ≤ 3) && (List.range l.length).all (rdK l)) := by
  rw [Bool.eq_iff_iff]
  simp only [hdsOk, Bool.and_eq_true, Bool.or_eq_true, decide_eq_true_eq]
  have hid : ∀ i, i < l.length → (l.map Hd.id).getD i 0 = (l.getD i ⟨0, [], []⟩).id := fun i hi => map_getD hi
  constructor
  · rintro ⟨h1, h2, h3, h4⟩
    refine ⟨h1, List.all_eq_true.2 fun i hi => ?_⟩
    have hi := List.mem_range.1 hi
    have p1 := ris_pos h2 (i := i) (by simpa using hi)
    rw [hid i hi] at p1
    have p2 : (l.getD i ⟨0, [], []⟩).id ≤ 99 := by
      rcases h3 with h3 | h3
      · omega
      · have := ris_le h2 (i := i) (j := l.length - 1) (by omega) (by simp; omega)
        rw [hid i hi] at this; omega
    have p3 : i = 0 ∨ (l.getD (i - 1) ⟨0, [], []⟩).id < (l.getD i ⟨0, [], []⟩).id := by
      by_cases e : i = 0
      · exact .inl e
      · have := ris_lt h2 (i := i - 1) (j := i) (by omega) (by simpa using hi)
        rw [hid i hi, hid (i - 1) (by omega)] at this
        exact .inr this
    simp only [rdK, Bool.and_eq_true, Bool.or_eq_true, decide_eq_true_eq, inB_iff]
    exact ⟨⟨p1, p2⟩, p3, List.all_eq_true.1 h4 _ (getD_mem hi)⟩
  · rintro ⟨h1, h2⟩
    have h2 : ∀ i, i < l.length → rdK l i = true := fun i hi => List.all_eq_true.1 h2 i (List.mem_range.2 hi)
    simp only [rdK, Bool.and_eq_true, Bool.or_eq_true, decide_eq_true_eq, inB_iff] at h2
    refine ⟨h1, List.all_eq_true.2 fun i hi => ?_, ?_, ?_⟩
    · have hi : i < l.length := by simpa using hi
      have := h2 i hi
      simp only [risK, Bool.and_eq_true, Bool.or_eq_true, decide_eq_true_eq, hid i hi]
      refine ⟨this.1.1, ?_⟩
      rcases this.2.1 with e | e
      · exact .inl e
      · exact .inr (by rw [hid (i - 1) (by omega)]; exact e)
    · by_cases e : l.length = 0
      · exact .inl e
      · exact .inr (by rw [hid _ (by omega)]; exact (h2 _ (by omega)).1.2)
    · rw [all_range (d := ⟨0, [], []⟩)]
      exact List.all_eq_true.2 fun i hi => (h2 i (List.mem_range.1 hi)).2.2
theorem rhandles_fn (l : List Hd) (hl : l.length ≤ 1000) (hs : ∀ h ∈ l, HdS h) : Fn Try.prog 13 [hdsA l] fun r => r = .v (.bool (hdsOk l)) := by
  rw [hdsOk_eq]
  refine Fn.of tys_ok Try.func13 rfl rfl (Nat.le_of_ble_eq_true rfl) ?_
  conv => whnf
  refine boolK_intro (fun h3 => ?_) (fun h3 => ?_) <;> simp only [decide_eq_true_eq, decide_eq_false_iff_not] at h3 <;> conv => whnf
  · exact ⟨_, fun _ _ h => h, by rw [decide_eq_false (show ¬ l.length ≤ 3 by omega), Bool.false_and]⟩
  rw [decide_eq_true (show l.length ≤ 3 by omega), Bool.true_and]
  refine aLoop.rule Nat (fun k => ([(0, hdsA l), (3, .v (.int .i64 k))], [])) (fun k => k ≤ l.length ∧ (List.range k).all (rdK l) = true) (fun k => l.length - k) 0 ⟨Nat.zero_le _, by simp⟩ ⟨[], trivial, ⟨rfl, rfl, trivial⟩, trivial, rfl, rfl, rfl⟩ ?_
  rintro k ⟨hk, hI⟩
  conv => whnf
  refine boolK_intro (fun h2 => ?_) (fun h2 => ?_) <;> simp at h2 <;> conv => whnf
  · have no : rdK l k = false → (List.range l.length).all (rdK l) = false := fun h => allR_no h2 h
    have hb := hs _ (getD_mem (d := ⟨0, [], []⟩) h2)
    have rK : rdK l k = (inB (l.getD k ⟨0, [], []⟩).id 0 99 && ((decide (k = 0) || decide ((l.getD (k - 1) ⟨0, [], []⟩).id < (l.getD k ⟨0, [], []⟩).id)) && hdOk (l.getD k ⟨0, [], []⟩))) := rfl
    have hdO : hdOk (l.getD k ⟨0, [], []⟩) = (decide ((l.getD k ⟨0, [], []⟩).lbas.length = (l.getD k ⟨0, [], []⟩).blocks.length) && (decide ((l.getD k ⟨0, [], []⟩).lbas.length ≤ 4) && (ris (l.getD k ⟨0, [], []⟩).lbas && (l.getD k ⟨0, [], []⟩).blocks.all fun b => decide (b.length = 8)))) := rfl
    obtain ⟨h, hh⟩ : ∃ h, h = l.getD k ⟨0, [], []⟩ := ⟨_, rfl⟩
    rw [← hh] at hb rK hdO
    refine ⟨by first | omega | (refine ⟨rfl, ?_, ?_⟩ <;> first | omega | (simp only [List.length_map]; done) | (simp only [List.length_map]; omega)) | (simp only [List.length_map]; omega), ?_⟩
    conv => whnf
    rw [Int.toNat_natCast, ← hh]
    conv => whnf
    refine aDraw.seq tys_ok mixed (by kernel_rfl) ?_
    conv => whnf
    refine Fn.closed (rin_fn h.id 0 99) rfl ?_
    rintro _ rfl
    conv => whnf
    refine boolK_intro (fun t1 => ?_) (fun t1 => ?_) <;> conv => whnf
    · exact ⟨_, fun _ _ h => h, by rw [no (by rw [rK, show inB h.id 0 99 = false by simpa using t1]; rfl)]⟩
    have t1 : inB h.id 0 99 = true := by simpa using t1
    refine boolK_intro (fun t2 => ?_) (fun t2 => ?_) <;> simp only [decide_eq_true_eq, decide_eq_false_iff_not] at t2 <;> conv => whnf
    · have w1 : IntKind.i64.wrap ((k : Int) - 1) = ((k - 1 : Nat) : Int) := by rw [wi (by omega)]; omega
      refine ⟨by rw [w1]; constructor <;> omega, ?_⟩
      conv => whnf
      rw [w1, Int.toNat_natCast]
      conv => whnf
      refine boolK_intro (fun t9 => ?_) (fun t9 => ?_) <;> simp only [decide_eq_true_eq, decide_eq_false_iff_not] at t9 <;> conv => whnf
      · exact ⟨_, fun _ _ h => h, by rw [no (by rw [rK, t1, decide_eq_false (show ¬ k = 0 by omega), decide_eq_false (show ¬ (l.getD (k - 1) ⟨0, [], []⟩).id < h.id by omega)]; rfl)]⟩
      have t12 : (decide (k = 0) || decide ((l.getD (k - 1) ⟨0, [], []⟩).id < h.id)) = true := by rw [decide_eq_true (show (l.getD (k - 1) ⟨0, [], []⟩).id < h.id by omega), Bool.or_true]
      refine boolK_intro (fun t3 => ?_) (fun t3 => ?_) <;> simp only [decide_eq_true_eq, decide_eq_false_iff_not] at t3 <;> conv => whnf
      · exact ⟨_, fun _ _ h => h, by rw [no (by rw [rK, hdO, decide_eq_false (show ¬ h.lbas.length ≤ 4 by omega)]; simp)]⟩
      refine boolK_intro (fun t4 => ?_) (fun t4 => ?_) <;> simp only [bne_iff_ne, ne_eq, Int.natCast_inj, bne_eq_false_iff_eq] at t4 <;> conv => whnf
      · exact ⟨_, fun _ _ h => h, by rw [no (by rw [rK, hdO, decide_eq_false (show ¬ h.lbas.length = h.blocks.length from fun e => t4 e.symm)]; simp)]⟩
      refine Fn.closed (rrising_fn h.lbas hb.1) rfl ?_
      rintro _ rfl
      conv => whnf
      refine boolK_intro (fun t5 => ?_) (fun t5 => ?_) <;> conv => whnf
      · exact ⟨_, fun _ _ h => h, by rw [no (by rw [rK, hdO, show ris h.lbas = false by simpa using t5]; simp)]⟩
      have t5 : ris h.lbas = true := by simpa using t5
      refine aLoop.rule Nat (fun j => ([(0, hdsA l), (3, .v (.int .i64 k)), (4, .bp 0 0), (5, .v (.int .i64 j))], [.box 36 (hdC h)])) (fun j => j ≤ h.blocks.length ∧ (h.blocks.take j).all (fun b => decide (b.length = 8)) = true) (fun j => h.blocks.length - j) 0 ⟨Nat.zero_le _, rfl⟩ ⟨[], trivial, ⟨rfl, rfl, rfl, rfl, trivial⟩, ⟨rfl, trivial⟩, rfl, rfl, rfl⟩ ?_
      rintro j ⟨hj, hJ⟩
      conv => whnf
      refine boolK_intro (fun t6 => ?_) (fun t6 => ?_) <;> simp at t6 <;> conv => whnf
      · refine ⟨by first | omega | (refine ⟨rfl, ?_, ?_⟩ <;> first | omega | (simp only [List.length_map]; done) | (simp only [List.length_map]; omega)) | (simp only [List.length_map]; omega), ?_⟩
        conv => whnf
        rw [Int.toNat_natCast]
        conv => whnf
        have hget : h.blocks.getD j [] ∈ h.blocks := getD_mem t6
        refine boolK_intro (fun t7 => ?_) (fun t7 => ?_) <;> conv => whnf
        · refine ⟨_, fun _ _ h => h, by rw [no (by
            rw [rK, hdO, show (h.blocks.all fun b => decide (b.length = 8)) = false from List.all_eq_false.2 ⟨_, hget, by
              have t7 : ¬ ((h.blocks.getD j []).length : Int) = 8 := by simpa only [bne_iff_ne] using t7
              simp only [decide_eq_true_eq]; omega⟩]
            simp)]⟩
        · refine ⟨j + 1, ⟨t6, ?_⟩, by omega, [], trivial, ⟨rfl, rfl, rfl, wsucc (by omega), trivial⟩, ⟨rfl, trivial⟩, rfl, rfl, rfl⟩
          rw [List.take_succ_eq_append_getElem t6, List.all_append, hJ]
          have t7 : ((h.blocks.getD j []).length : Int) = 8 := by simpa only [bne_eq_false_iff_eq] using t7
          rw [List.getD_eq_getElem?_getD, List.getElem?_eq_getElem t6] at t7
          have t7 : (h.blocks[j]).length = 8 := by simp only [Option.getD_some] at t7; omega
          simp [t7]
      · have e : j = h.blocks.length := by omega
        rw [e, List.take_length] at hJ
        refine ⟨k + 1, ⟨h2, ?_⟩, by omega, [], trivial, ⟨rfl, wsucc (by omega), trivial⟩, trivial, rfl, rfl, rfl⟩
        rw [allR_succ, hI, rK, t1, t12, hdO, hJ, t5, decide_eq_true t4.symm, decide_eq_true (show h.lbas.length ≤ 4 by omega)]; rfl
    · have t12 : (decide (k = 0) || decide ((l.getD (k - 1) ⟨0, [], []⟩).id < h.id)) = true := by rw [decide_eq_true (show k = 0 by omega), Bool.true_or]
      refine boolK_intro (fun t3 => ?_) (fun t3 => ?_) <;> simp only [decide_eq_true_eq, decide_eq_false_iff_not] at t3 <;> conv => whnf
      · exact ⟨_, fun _ _ h => h, by rw [no (by rw [rK, hdO, decide_eq_false (show ¬ h.lbas.length ≤ 4 by omega)]; simp)]⟩
      refine boolK_intro (fun t4 => ?_) (fun t4 => ?_) <;> simp only [bne_iff_ne, ne_eq, Int.natCast_inj, bne_eq_false_iff_eq] at t4 <;> conv => whnf
      · exact ⟨_, fun _ _ h => h, by rw [no (by rw [rK, hdO, decide_eq_false (show ¬ h.lbas.length = h.blocks.length from fun e => t4 e.symm)]; simp)]⟩
      refine Fn.closed (rrising_fn h.lbas hb.1) rfl ?_
      rintro _ rfl
      conv => whnf
      refine boolK_intro (fun t5 => ?_) (fun t5 => ?_) <;> conv => whnf
      · exact ⟨_, fun _ _ h => h, by rw [no (by rw [rK, hdO, show ris h.lbas = false by simpa using t5]; simp)]⟩
      have t5 : ris h.lbas = true := by simpa using t5
      refine aLoop.rule Nat (fun j => ([(0, hdsA l), (3, .v (.int .i64 k)), (4, .bp 0 0), (5, .v (.int .i64 j))], [.box 36 (hdC h)])) (fun j => j ≤ h.blocks.length ∧ (h.blocks.take j).all (fun b => decide (b.length = 8)) = true) (fun j => h.blocks.length - j) 0 ⟨Nat.zero_le _, rfl⟩ ⟨[], trivial, ⟨rfl, rfl, rfl, rfl, trivial⟩, ⟨rfl, trivial⟩, rfl, rfl, rfl⟩ ?_
      rintro j ⟨hj, hJ⟩
      conv => whnf
      refine boolK_intro (fun t6 => ?_) (fun t6 => ?_) <;> simp at t6 <;> conv => whnf
      · refine ⟨by first | omega | (refine ⟨rfl, ?_, ?_⟩ <;> first | omega | (simp only [List.length_map]; done) | (simp only [List.length_map]; omega)) | (simp only [List.length_map]; omega), ?_⟩
        conv => whnf
        rw [Int.toNat_natCast]
        conv => whnf
        have hget : h.blocks.getD j [] ∈ h.blocks := getD_mem t6
        refine boolK_intro (fun t7 => ?_) (fun t7 => ?_) <;> conv => whnf
        · refine ⟨_, fun _ _ h => h, by rw [no (by
            rw [rK, hdO, show (h.blocks.all fun b => decide (b.length = 8)) = false from List.all_eq_false.2 ⟨_, hget, by
              have t7 : ¬ ((h.blocks.getD j []).length : Int) = 8 := by simpa only [bne_iff_ne] using t7
              simp only [decide_eq_true_eq]; omega⟩]
            simp)]⟩
        · refine ⟨j + 1, ⟨t6, ?_⟩, by omega, [], trivial, ⟨rfl, rfl, rfl, wsucc (by omega), trivial⟩, ⟨rfl, trivial⟩, rfl, rfl, rfl⟩
          rw [List.take_succ_eq_append_getElem t6, List.all_append, hJ]
          have t7 : ((h.blocks.getD j []).length : Int) = 8 := by simpa only [bne_eq_false_iff_eq] using t7
          rw [List.getD_eq_getElem?_getD, List.getElem?_eq_getElem t6] at t7
          have t7 : (h.blocks[j]).length = 8 := by simp only [Option.getD_some] at t7; omega
          simp [t7]
      · have e : j = h.blocks.length := by omega
        rw [e, List.take_length] at hJ
        refine ⟨k + 1, ⟨h2, ?_⟩, by omega, [], trivial, ⟨rfl, wsucc (by omega), trivial⟩, trivial, rfl, rfl, rfl⟩
        rw [allR_succ, hI, rK, t1, t12, hdO, hJ, t5, decide_eq_true t4.symm, decide_eq_true (show h.lbas.length ≤ 4 by omega)]; rfl
  · exact ⟨_, fun _ _ h => h, by have : k = l.length := by omega
                                 rw [this] at hI; rw [hI]⟩
end Go.Proofs.Ytjcboeldmgmfcaa.A
end

/-
The reference's handles: opened, got.
-/
section
namespace Go.Proofs.Ytjcboeldmgmfcaa.A
open Go.RowKit

theorem rdK_of {l : List Hd} (hok : hdsOk l = true) {i : Nat} (hi : i < l.length) : 0 ≤ (l.getD i ⟨0, [], []⟩).id ∧ (0 < i → (l.getD (i - 1) ⟨0, [], []⟩).id < (l.getD i ⟨0, [], []⟩).id) := by
  rw [hdsOk_eq, Bool.and_eq_true] at hok
  have := List.all_eq_true.1 hok.2 i (List.mem_range.2 hi)
  simp only [rdK, Bool.and_eq_true, Bool.or_eq_true, decide_eq_true_eq, inB_iff] at this
  exact ⟨this.1.1, fun h => by rcases this.2.1 with e | e <;> omega⟩
theorem ids_ge {l : List Hd} (hok : hdsOk l = true) : ∀ {i : Nat}, i < l.length → (i : Int) ≤ (l.getD i ⟨0, [], []⟩).id
  | 0, h => (rdK_of hok h).1
  | i + 1, h => by
    have h1 := ids_ge hok (i := i) (by omega)
    have h2 := (rdK_of hok h).2 (by omega)
    simp only [Nat.add_sub_cancel] at h2
    omega
theorem ids_lt {l : List Hd} (hok : hdsOk l = true) {i j : Nat} (hij : i < j) (hj : j < l.length) : (l.getD i ⟨0, [], []⟩).id < (l.getD j ⟨0, [], []⟩).id := by
  induction j with
  | zero => omega
  | succ j ih =>
    have h2 := (rdK_of hok hj).2 (by omega)
    simp only [Nat.add_sub_cancel] at h2
    by_cases e : i = j
    · subst e; exact h2
    · have := ih (by omega) (by omega); omega
theorem freeId_id {l : List Hd} : ∀ (n : Nat), (∀ i, i < l.length → (l.getD i ⟨0, [], []⟩).id = ((n + i : Nat) : Int)) → freeId l n = ((n + l.length : Nat) : Int) := by
  induction l with
  | nil => intro n _; rfl
  | cons h l ih =>
    intro n hh
    have h0 := hh 0 (by simp)
    simp only [List.getD_cons_zero, Nat.add_zero] at h0
    rw [freeId, if_pos h0, show ((n : Int) + 1) = ((n + 1 : Nat) : Int) by omega, ih (n + 1) (fun i hi => by
      have := hh (i + 1) (by simpa using hi)
      rw [List.getD_cons_succ] at this
      rw [this]; omega)]
    simp only [List.length_cons]; omega
theorem freeId_ne {l : List Hd} {n : Int} (h : ∀ x ∈ l, x.id ≠ n) : freeId l n = n := by
  induction l with
  | nil => rfl
  | cons x l ih => rw [freeId, if_neg (h x (by simp)), ih fun y hy => h y (by simp [hy])]
theorem freeId_gap {l : List Hd} (hok : hdsOk l = true) {k : Nat} (hk : k ≤ l.length) (h1 : ∀ j, j < k → (l.getD j ⟨0, [], []⟩).id = (j : Int)) (h2 : k < l.length → (l.getD k ⟨0, [], []⟩).id ≠ (k : Int)) : freeId l 0 = (k : Int) := by
  rw [← List.take_append_drop k l, freeId_app]
  have e1 : freeId (l.take k) 0 = (k : Int) := by
    have := freeId_id (l := l.take k) 0 (fun i hi => by
      simp only [List.length_take] at hi
      rw [List.getD_eq_getElem?_getD, List.getElem?_take_of_lt (by omega), ← List.getD_eq_getElem?_getD, h1 i (by omega)]; omega)
    rw [show ((0 : Nat) : Int) = 0 from rfl] at this
    rw [this, List.length_take]; omega
  rw [e1]
  refine freeId_ne fun x hx => ?_
  obtain ⟨j, hj, rfl⟩ := List.mem_iff_getElem.1 hx
  simp only [List.length_drop] at hj
  rw [List.getElem_drop]
  have hkl : k < l.length := by omega
  have a1 := ids_ge hok hkl
  have a2 := h2 hkl
  have e2 : l[k + j] = l.getD (k + j) ⟨0, [], []⟩ := by rw [List.getD_eq_getElem?_getD, List.getElem?_eq_getElem (by omega)]; rfl
  rw [e2]
  by_cases e : j = 0
  · subst e; exact a2
  · have := ids_lt hok (i := k) (j := k + j) (by omega) (by omega)
    omega
set_option maxRecDepth 100000 in
theorem ropen_fn (l : List Hd) (hok : hdsOk l = true) (hs : ∀ h ∈ l, HdB h) : Fn Try.prog 16 [hdsA l] fun r => r = .tp [hdsA (openH l).1, .v (.int .i64 (if 3 ≤ l.length then -1 else (openH l).2.1))] := by
  have hl : l.length ≤ 3 := by
    have := hok
    rw [hdsOk_eq, Bool.and_eq_true, decide_eq_true_eq] at this
    exact this.1
  refine Fn.of tys_ok Try.func16 rfl rfl (Nat.le_of_ble_eq_true rfl) ?_
  conv => whnf
  refine boolK_intro (fun h3 => ?_) (fun h3 => ?_) <;> simp only [decide_eq_true_eq, decide_eq_false_iff_not] at h3 <;> conv => whnf
  · exact ⟨.tp [hdsA [], .v (.int .i64 (-1))], tp_sub ⟨nil_hds, fun _ _ h => h, trivial⟩, by rw [openH, hok, if_neg (by simp), if_pos (by omega), if_pos (by omega)]⟩
  rw [if_neg (show ¬ 3 ≤ l.length by omega)]
  refine aLoop.rule Nat (fun k => ([(0, hdsA l), (4, .v (.int .i64 k))], [])) (fun k => k ≤ l.length ∧ ∀ j, j < k → (l.getD j ⟨0, [], []⟩).id = (j : Int)) (fun k => l.length - k) 0 ⟨Nat.zero_le _, fun j hj => absurd hj (Nat.not_lt_zero _)⟩ ⟨[], trivial, ⟨rfl, rfl, trivial⟩, trivial, rfl, rfl, rfl⟩ ?_
  rintro k ⟨hk, hI⟩
  conv => whnf
  refine boolK_intro (fun h2 => ?_) (fun h2 => ?_) <;> simp only [decide_eq_true_eq, decide_eq_false_iff_not] at h2 <;> conv => whnf
  · refine ⟨by first | omega | (refine ⟨rfl, ?_, ?_⟩ <;> first | omega | (simp only [List.length_map]; done) | (simp only [List.length_map]; omega)) | (simp only [List.length_map]; omega), ?_⟩
    conv => whnf
    refine boolK_intro (fun h4 => ?_) (fun h4 => ?_) <;> (repeat rw [Int.toNat_natCast] at h4) <;> conv => whnf
    · refine ⟨k + 1, ⟨by omega, fun j hj => ?_⟩, by omega, [], trivial, ⟨rfl, wsucc (by omega), trivial⟩, trivial, rfl, rfl, rfl⟩
      by_cases e : j = k
      · subst e; simpa using h4
      · exact hI j (by omega)
    · have hf : freeId l 0 = (k : Int) := freeId_gap hok hk hI (fun _ => by simpa using h4)
      have e2 : openH l = (l.take k ++ [⟨k, [], []⟩] ++ l.drop k, (k : Int), 0) := by rw [openH, hok, if_neg (by simp), if_neg (by omega), hf, Int.toNat_natCast]
      refine And.intro ⟨by omega, by omega, by omega, by omega⟩ ?_
      conv => whnf
      refine ACalls.sub [hdsA (l.take k)] ⟨fun c u h => Rd.congr (by rw [List.length_take]; omega) (fun i hi => by
        have hi : i < k := by simpa using hi
        show hdC _ = hdC _
        rw [List.getD_eq_getElem?_getD (l := l.take k), List.getElem?_take_of_lt hi, ← List.getD_eq_getElem?_getD]; simp) h, trivial⟩ ?_
      refine ACalls.beside (twinhandles_own (l.take k) (by rw [List.length_take]; omega) (fun h hh => hs h (List.mem_of_mem_take hh))) rfl ?_
      rintro _ _ ⟨rfl, rfl⟩
      conv => whnf
      refine And.intro rfl ?_
      conv => whnf
      refine And.intro ⟨by simp, by rw [List.length_take]; omega⟩ ?_
      conv => whnf
      refine And.intro ⟨by omega, by omega, by omega, by omega⟩ ?_
      conv => whnf
      refine ACalls.sub [hdsA (l.drop k)] ⟨fun c u h => Rd.congr (by rw [List.length_drop]; omega) (fun i hi => by
        show hdC _ = hdC _
        rw [List.getD_eq_getElem?_getD (l := l.drop k), List.getElem?_drop, ← List.getD_eq_getElem?_getD, Nat.add_comm]; simp) h, trivial⟩ ?_
      refine Fn.closed (twinhandles_fn (l.drop k) (by rw [List.length_drop]; omega) (fun h hh => hs h (List.mem_of_mem_drop hh))) rfl ?_
      rintro _ rfl
      conv => whnf
      refine And.intro ⟨by simp, by rw [List.length_take, List.length_drop]; omega⟩ ?_
      conv => whnf
      refine And.intro (by simp only [List.length_append, List.length_map, List.length_cons, List.length_nil, List.length_range]) ?_
      conv => whnf
      refine ⟨.tp [hdsA (l.take k ++ [⟨k, [], []⟩] ++ l.drop k), .v (.int .i64 k)], tp_sub ⟨fun c u h => Rd.sub (by simp only [List.length_append, List.length_cons, List.length_nil]) (fun i hi => ?_) h, fun _ _ h => h, trivial⟩, by rw [e2]⟩
      rw [range_map (d := (⟨0, [], []⟩ : Hd)) hdC (l.drop k)]
      have hlen : i < (l.take k ++ [(⟨k, [], []⟩ : Hd)] ++ l.drop k).length := by
        simp only [List.length_append, List.length_take, List.length_drop, List.length_cons, List.length_nil] at hi ⊢; omega
      rw [← map_getD (f := hdC) (d := ⟨0, [], []⟩) (e := []) hlen, List.map_append, List.map_append]
      exact mid_sub (e := [.v (.int .i64 k), .v (.slice none 0 0), .v (.slice none 0 0)]) (e' := hdC ⟨k, [], []⟩) ⟨fun _ _ h => h, fun c u h => nil_sl 1 _ c u h, fun c u h => nil_sl 1 _ c u h, trivial⟩ i
  · have hf : freeId l 0 = (k : Int) := freeId_gap hok hk hI (fun h => by omega)
    have e2 : openH l = (l.take k ++ [⟨k, [], []⟩] ++ l.drop k, (k : Int), 0) := by rw [openH, hok, if_neg (by simp), if_neg (by omega), hf, Int.toNat_natCast]
    refine And.intro ⟨by omega, by omega, by omega, by omega⟩ ?_
    conv => whnf
    refine ACalls.sub [hdsA (l.take k)] ⟨fun c u h => Rd.congr (by rw [List.length_take]; omega) (fun i hi => by
      have hi : i < k := by simpa using hi
      show hdC _ = hdC _
      rw [List.getD_eq_getElem?_getD (l := l.take k), List.getElem?_take_of_lt hi, ← List.getD_eq_getElem?_getD]; simp) h, trivial⟩ ?_
    refine ACalls.beside (twinhandles_own (l.take k) (by rw [List.length_take]; omega) (fun h hh => hs h (List.mem_of_mem_take hh))) rfl ?_
    rintro _ _ ⟨rfl, rfl⟩
    conv => whnf
    refine And.intro rfl ?_
    conv => whnf
    refine And.intro ⟨by simp, by rw [List.length_take]; omega⟩ ?_
    conv => whnf
    refine And.intro ⟨by omega, by omega, by omega, by omega⟩ ?_
    conv => whnf
    refine ACalls.sub [hdsA (l.drop k)] ⟨fun c u h => Rd.congr (by rw [List.length_drop]; omega) (fun i hi => by
      show hdC _ = hdC _
      rw [List.getD_eq_getElem?_getD (l := l.drop k), List.getElem?_drop, ← List.getD_eq_getElem?_getD, Nat.add_comm]; simp) h, trivial⟩ ?_
    refine Fn.closed (twinhandles_fn (l.drop k) (by rw [List.length_drop]; omega) (fun h hh => hs h (List.mem_of_mem_drop hh))) rfl ?_
    rintro _ rfl
    conv => whnf
    refine And.intro ⟨by simp, by rw [List.length_take, List.length_drop]; omega⟩ ?_
    conv => whnf
    refine And.intro (by simp only [List.length_append, List.length_map, List.length_cons, List.length_nil, List.length_range]) ?_
    conv => whnf
    refine ⟨.tp [hdsA (l.take k ++ [⟨k, [], []⟩] ++ l.drop k), .v (.int .i64 k)], tp_sub ⟨fun c u h => Rd.sub (by simp only [List.length_append, List.length_cons, List.length_nil]) (fun i hi => ?_) h, fun _ _ h => h, trivial⟩, by rw [e2]⟩
    rw [range_map (d := (⟨0, [], []⟩ : Hd)) hdC (l.drop k)]
    have hlen : i < (l.take k ++ [(⟨k, [], []⟩ : Hd)] ++ l.drop k).length := by
      simp only [List.length_append, List.length_take, List.length_drop, List.length_cons, List.length_nil] at hi ⊢; omega
    rw [← map_getD (f := hdC) (d := ⟨0, [], []⟩) (e := []) hlen, List.map_append, List.map_append]
    exact mid_sub (e := [.v (.int .i64 k), .v (.slice none 0 0), .v (.slice none 0 0)]) (e' := hdC ⟨k, [], []⟩) ⟨fun _ _ h => h, fun c u h => nil_sl 1 _ c u h, fun c u h => nil_sl 1 _ c u h, trivial⟩ i
end Go.Proofs.Ytjcboeldmgmfcaa.A
end

/-
The reference's handles: got, put.
-/
section
namespace Go.Proofs.Ytjcboeldmgmfcaa.A
open Go.RowKit

theorem lb_hit {L : List Int} {x : Int} (hr : ris L = true) {k : Nat} (hk : k < L.length) (e : L.getD k 0 = x) : lb L x = k :=
  lb_of (by omega) (fun j hj => by rw [← e]; exact ris_lt hr hj hk) (fun j h1 h2 => by rw [← e]; exact ris_le hr h1 h2)
theorem lb_no {L : List Int} {x : Int} (h : ∀ j, j < L.length → L.getD j 0 ≠ x) : (decide (lb L x < L.length) && (L.getD (lb L x) 0 == x)) = false := by
  cases hd : decide (lb L x < L.length) with
  | false => rfl
  | true => rw [Bool.true_and, beq_eq_false_iff_ne]; exact h _ (by simpa using hd)
def gB (h : Hd) (lba : Int) : List UInt8 × Bool := if decide (lb h.lbas lba < h.lbas.length) && (h.lbas.getD (lb h.lbas lba) 0 == lba) then (h.blocks.getD (lb h.lbas lba) [], true) else ([], false)
theorem rget_fn (l : List Hd) (p : Nat) (lba : Int) (hok : hdsOk l = true) (hp : p < l.length) : Fn Try.prog 18 [hdsA l, .v (.int .i64 p), .v (.int .i64 lba)] fun r => r = .tp [bA (gB (l.getD p ⟨0, [], []⟩) lba).1, .v (.bool (gB (l.getD p ⟨0, [], []⟩) lba).2)] := by
  obtain ⟨ho1, ho2, ho3, ho4⟩ := hdOk_iff.1 (hdOk_of hok hp)
  obtain ⟨h, hh⟩ : ∃ h, h = l.getD p ⟨0, [], []⟩ := ⟨_, rfl⟩
  rw [← hh] at ho1 ho2 ho3 ho4 ⊢
  refine Fn.of tys_ok Try.func18 rfl rfl (Nat.le_of_ble_eq_true rfl) ?_
  conv => whnf
  refine aLoop.rule Nat (fun k => ([(0, hdsA l), (1, .v (.int .i64 p)), (2, .v (.int .i64 lba)), (8, .v (.int .i64 k))], [])) (fun k => k ≤ h.lbas.length ∧ ∀ j, j < k → h.lbas.getD j 0 ≠ lba) (fun k => h.lbas.length - k) 0 ⟨Nat.zero_le _, fun j hj => absurd hj (Nat.not_lt_zero _)⟩ ⟨[], trivial, ⟨rfl, rfl, rfl, rfl, trivial⟩, trivial, rfl, rfl, rfl⟩ ?_
  rintro k ⟨hk, hI⟩
  conv => whnf
  refine ⟨by first | omega | (refine ⟨rfl, ?_, ?_⟩ <;> first | omega | (simp only [List.length_map]; done) | (simp only [List.length_map]; omega)) | (simp only [List.length_map]; omega), ?_⟩
  conv => whnf
  rw [Int.toNat_natCast, ← hh]
  conv => whnf
  refine boolK_intro (fun h2 => ?_) (fun h2 => ?_) <;> simp only [decide_eq_true_eq, decide_eq_false_iff_not] at h2 <;> conv => whnf
  · refine ⟨by first | omega | (refine ⟨rfl, ?_, ?_⟩ <;> first | omega | (simp only [List.length_map]; done) | (simp only [List.length_map]; omega)) | (simp only [List.length_map]; omega), ?_⟩
    conv => whnf
    rw [Int.toNat_natCast, ← hh]
    conv => whnf
    refine ⟨by first | omega | (refine ⟨rfl, ?_, ?_⟩ <;> first | omega | (simp only [List.length_map]; done) | (simp only [List.length_map]; omega)) | (simp only [List.length_map]; omega), ?_⟩
    conv => whnf
    rw [Int.toNat_natCast]
    conv => whnf
    refine boolK_intro (fun h4 => ?_) (fun h4 => ?_) <;> conv => whnf
    · have e : lb h.lbas lba = k := lb_hit ho3 (by omega) (by simpa using h4)
      refine ⟨by first | omega | (refine ⟨rfl, ?_, ?_⟩ <;> first | omega | (simp only [List.length_map]; done) | (simp only [List.length_map]; omega)) | (simp only [List.length_map]; omega), ?_⟩
      conv => whnf
      rw [Int.toNat_natCast, ← hh]
      conv => whnf
      refine ⟨by first | omega | (refine ⟨rfl, ?_, ?_⟩ <;> first | omega | (simp only [List.length_map]; done) | (simp only [List.length_map]; omega)) | (simp only [List.length_map]; omega), ?_⟩
      conv => whnf
      rw [Int.toNat_natCast]
      conv => whnf
      refine Fn.closed (twin_fn (h.blocks.getD k []) (by have := ho4 _ (getD_mem (d := []) (show k < h.blocks.length by omega)); omega)) rfl ?_
      rintro _ rfl
      conv => whnf
      exact ⟨_, fun _ _ h => h, by rw [gB, e, h4, decide_eq_true (show k < h.lbas.length by omega)]; rfl⟩
    · refine ⟨k + 1, ⟨by omega, fun j hj => ?_⟩, by omega, [], trivial, ⟨rfl, rfl, rfl, wsucc (by omega), trivial⟩, trivial, rfl, rfl, rfl⟩
      by_cases e : j = k
      · subst e; simpa using h4
      · exact hI j (by omega)
  · exact ⟨.tp [bA [], .v (.bool false)], tp_sub ⟨fun c u h => nil_sl 1 _ c u h, fun _ _ h => h, trivial⟩, by rw [gB, lb_no (fun j hj => hI j (by omega))]; rfl⟩
/-- The place of a new number, found from behind. -/
theorem lb_back {L : List Int} {x : Int} {k : Nat} (hr : ris L = true) (hk : k ≤ L.length) (_hno : ∀ j, j < L.length → L.getD j 0 ≠ x) (h1 : ∀ j, k ≤ j → j < L.length → x < L.getD j 0) (h2 : k = 0 ∨ L.getD (k - 1) 0 < x) : lb L x = k :=
  lb_of hk (fun j hj => by
    rcases h2 with e | e
    · omega
    · have := ris_le hr (i := j) (j := k - 1) (by omega) (by omega); omega) (fun j a b => Int.le_of_lt (h1 j a b))
/-- A number, a block, set into rows. -/
def insL {α : Type} (L : List α) (x : α) (k : Nat) : List α := L.take k ++ [x] ++ L.drop k
theorem insL_len {α : Type} {L : List α} {x : α} {k : Nat} (h : k ≤ L.length) : (insL L x k).length = L.length + 1 := by
  simp only [insL, List.length_append, List.length_take, List.length_drop, List.length_cons, List.length_nil]; omega
theorem insL_at {α : Type} {d : α} {L : List α} {x : α} {k : Nat} (h : k ≤ L.length) : (insL L x k).getD k d = x := by
  rw [insL, List.append_assoc, getD_appR (by rw [List.length_take]; omega), List.length_take, Nat.min_eq_left h, Nat.sub_self]; rfl
theorem insL_below {α : Type} {d : α} {L : List α} {x : α} {k j : Nat} (h : k ≤ L.length) (hj : j < k) : (insL L x k).getD j d = L.getD j d := by
  rw [insL, List.append_assoc, getD_app (by rw [List.length_take]; omega), List.getD_eq_getElem?_getD, List.getElem?_take_of_lt hj, ← List.getD_eq_getElem?_getD]
theorem insL_swap {α : Type} {d : α} {L : List α} {x : α} {k : Nat} (h : k ≤ L.length) (hk : 0 < k) : ((insL L x k).set k (L.getD (k - 1) d)).set (k - 1) x = insL L x (k - 1) := by
  refine List.ext_getElem (by rw [List.length_set, List.length_set, insL_len h, insL_len (by omega)]) fun i h1 h2 => ?_
  have hl : i < L.length + 1 := by rw [insL_len (by omega)] at h2; exact h2
  have e : ∀ (m : List α) (hm : i < m.length), m[i] = m.getD i d := fun m hm => by rw [List.getD_eq_getElem?_getD, List.getElem?_eq_getElem hm]; rfl
  rw [List.getElem_set, List.getElem_set]
  have up : ∀ q, q ≤ L.length → q < i → (insL L x q).getD i d = L.getD (i - 1) d := fun q hq hqi => by
    rw [insL, List.append_assoc, getD_appR (by rw [List.length_take]; omega), List.length_take, Nat.min_eq_left hq]
    rw [getD_appR (by simp; omega)]
    rw [List.getD_eq_getElem?_getD, List.getElem?_drop, ← List.getD_eq_getElem?_getD]
    congr 1
    simp only [List.length_cons, List.length_nil]; omega
  split
  · rename_i e1; subst e1; rw [e _ (by rw [insL_len (by omega)]; omega), insL_at (by omega)]
  · split
    · rename_i e1 e2
      subst e2
      rw [e _ (by rw [insL_len (by omega)]; omega), up (k - 1) (by omega) (by omega)]
    · rename_i e1 e2
      rw [e _ (by rw [insL_len h]; omega), e _ (by rw [insL_len (by omega)]; omega)]
      by_cases h3 : i < k - 1
      · rw [insL_below h (by omega), insL_below (by omega) h3]
      · rw [up k h (by omega), up (k - 1) (by omega) (by omega)]
end Go.Proofs.Ytjcboeldmgmfcaa.A
end
