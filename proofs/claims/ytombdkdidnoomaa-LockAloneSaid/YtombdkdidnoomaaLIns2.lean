/-
slices.Insert of one element, at another type.
-/
import Derived.Test.YtombdkdidnoomaaLIns
namespace Go.Proofs.Ytombdkdidnoomaa
open Go.RowKit
attribute [local go_sem ↓] Go.wp_at_zero Go.wp_at_succ

set_option maxHeartbeats 4000000 in
theorem insI_end (v : Value) (n : Nat) (xs ys : List Value) (vb base : Nat) (w : World) (ho : w.ownsRow base 3 1 v n xs) (hb : Blk w vb 3 ys.toArray) (hy : ys.length = 1)
    (h1y : ∀ u ∈ ys, u.oneCell' = true) (hn : n ≤ 1000000) (hbase : base ≤ w.heap.size) :
    Calls Try.prog 24 #[v, .int .i64 n, .slice (some ⟨vb, 0, none⟩) 1 1] w fun e w' => ∃ v', e = .returned v' ∧ w'.ownsRow base 3 1 v' (n + 1) (xs ++ ys) ∧ w.grownBy w' v.ownBlock ∧
      (v'.ownBlock = v.ownBlock ∨ v'.ownBlock = some w.heap.size) := by
  obtain ⟨i0, hi0, hz0, hz1, hz2⟩ := info_parts (show (Try.prog.info? 3).map (fun i => (i.zero, i.size, i.bytes)) = some (some (.int .i64 0), 1, 8) by kernel_rfl)
  obtain ⟨v', w2, hrun, h2, h3, h4, h5⟩ := run_append_own_at (P := Try.prog) w base 37 37 3 i0 _ 1 8 Try.underlying37 hi0 hz0 hz1 hz2 rfl (by omega) v n xs ho ⟨vb, 0, none⟩ 1 1 ys (by omega)
    (fun j u hu => by rw [Addr.add_lit, Nat.zero_add, hb.cell]; simpa using hu) h1y (by unfold maxLen; omega) (by omega) hbase
  have H2 := Lib.hid (And.intro h2 (And.intro h3 h5))
  rcases ho.2 with ⟨rfl, rfl⟩ | ⟨g, c, cur, rfl, hbg, hg, hnc, hcm, hcs, ht⟩
  · clear h2 h3 h4 h5 hz0 hz1 hz2 hi0 ho hb hy h1y hbase
    go_enter Try.func24, Try.ntmps24
    go_wp2_with (at_builtin; refine wpList_append_run' rfl _ _ _ _ rfl (by rfl) (by rfl) hrun ?_)
    go_ret
    exact ⟨_, rfl, H2.out⟩
  · unfold maxLen at hcm
    have hg' := Lib.hid hg
    have hn0 : (0 : Int) ≤ n := by omega
    clear h2 h3 h4 h5 hz0 hz1 hz2 hi0 ho hb hy h1y hbase hg hcs ht
    by_cases hcn : c = n
    · subst hcn
      go_enter Try.func24, Try.ntmps24
      go_wp2_with (at_builtin; refine wpList_append_run' rfl _ _ _ _ rfl (by rfl) (by rfl) hrun ?_)
      go_ret
      exact ⟨_, rfl, H2.out⟩
    · go_enter Try.func24, Try.ntmps24
      go_wp2_with (at_builtin; refine wpList_append_run' rfl _ _ _ _ rfl (by rfl) (by rfl) hrun ?_)
      go_ret
      exact ⟨_, rfl, H2.out⟩

set_option maxHeartbeats 4000000 in
theorem insI_shift (g c n i : Nat) (xs ys : List Value) (vb base : Nat) (w : World) (ho : w.ownsRow base 3 1 (.slice (some ⟨g, 0, none⟩) n c) n xs) (hb : Blk w vb 3 ys.toArray) (hy : ys.length = 1)
    (h1x : ∀ u ∈ xs, u.oneCell' = true) (h1y : ∀ u ∈ ys, u.oneCell' = true) (hne : vb ≠ g) (hi : i < n) (hroom : n + 1 ≤ c) (hn : n ≤ 1000000) :
    Calls Try.prog 24 #[.slice (some ⟨g, 0, none⟩) n c, .int .i64 i, .slice (some ⟨vb, 0, none⟩) 1 1] w fun e w' => ∃ v', e = .returned v' ∧ w'.ownsRow base 3 1 v' (n + 1) (xs.take (i) ++ ys ++ xs.drop (i)) ∧ w.grownBy w' (some g) ∧
      v'.ownBlock = some g := by
  have hsz : (Try.prog.info? 3).map (·.size) = some 1 := by kernel_rfl
  rcases ho.2 with ⟨e, _⟩ | ⟨g', c', cur, e, hbg, hg, hnc, hcm, hcs, ht⟩
  · cases e
  cases e
  have hxl := ho.1
  have hov : ∀ lb cb, (callFunc 44 #[.slice (some ⟨vb, 0, none⟩) 1 1, .slice (some ⟨g, i + 1, none⟩) lb cb]).run Try.prog w = .ok (.value (.bool false)) w := fun lb cb => by
    rw [run_callFunc_extern Try.func44 (by kernel_rfl) (by kernel_rfl) (by kernel_rfl) (e := Extern.SlicesOverlaps.overlaps #[37, 37] #[4]) (by kernel_rfl),
      Lib.run_overlaps_apart w 37 4 3 Try.underlying37 1 (fun _ => by kernel_rfl) ⟨vb, 0, none⟩ ⟨g, i + 1, none⟩ 1 1 lb cb hne 3 3 ys.length cur.size
        (by unfold Blk at hb; simp [World.shape?, hb]) (by simp [World.shape?, hg]) (by omega) (hb.frozen 0) (hb.frozen _)]
    rfl
  have hnlt : (i : Int) < n := by omega
  have hne' : ¬ ((i : Int) = n) := by omega
  have hroom' : (n : Int) + 1 ≤ c := by omega
  unfold maxLen at hcm
  have hcp1 : ∀ (W : World), W.heap = w.heap → ∀ ty dc sc, (Builtin.copy_ #[37, 37] ty #[.slice (some ⟨g, i + 1, none⟩) (n - i) dc, .slice (some ⟨g, i, none⟩) (n + 1 - i) sc]).run Try.prog W = .ok (goInt ((n - i : Nat) : Int)) (W.setRow g (spl cur.toList (i + 1) (xs.drop (i))).toArray) := fun W hW ty dc sc => by
    have hmin : Nat.min (n + 1 - i) (n - i) = n - i := by simp only [Nat.min_def]; split <;> omega
    have := run_copy_K (P := Try.prog) W 37 37 ty 3 g (i + 1) (n - i) dc ⟨g, i, none⟩ (n + 1 - i) sc cur 3 (xs.drop (i)) 1 Try.underlying37 hsz (by rw [hW]; exact hg)
      (by rw [hmin, List.length_drop, hxl]; omega) (fun j u hu => by
        rw [List.getElem?_drop, ← ht, List.getElem?_take] at hu
        split at hu
        · rw [Addr.add_lit, cell_of_row W g _ cur 3 (0, 0) (by rw [hW]; exact hg)]
          simpa using hu
        · cases hu) (by rw [List.length_drop, hxl, hcs]; omega) (fun u hu => h1x u (List.mem_of_mem_drop hu))
    rw [hmin] at this
    rw [this]
    congr 2
    have e : (i + 1) = i + 1 := by omega
    rw [e]
    exact congrArg List.toArray (over_get (by rw [List.length_drop, hxl, Array.length_toList, hcs]; omega))
  obtain ⟨L1, hL1⟩ : ∃ L1, L1 = spl cur.toList (i + 1) (xs.drop (i)) := ⟨_, rfl⟩
  have hL1l : L1.length = c * 1 := by rw [hL1, length_spl _ _ _ (by rw [List.length_drop, hxl, Array.length_toList, hcs]; omega), Array.length_toList, hcs]
  rw [← hL1] at hcp1
  have hcp2 : ∀ (W : World), W.heap[g]? = some (.cells L1.toArray 3 (0, 0)) → W.heap[vb]? = w.heap[vb]? → ∀ ty dc, (Builtin.copy_ #[37, 37] ty #[.slice (some ⟨g, i, none⟩) (n + 1 - i) dc, .slice (some ⟨vb, 0, none⟩) 1 1]).run Try.prog W = .ok (goInt 1) (W.setRow g (spl L1 (i) ys).toArray) := fun W hW hV ty dc => by
    have hmin : Nat.min 1 (n + 1 - i) = 1 := by simp only [Nat.min_def]; split <;> omega
    have := run_copy_K (P := Try.prog) W 37 37 ty 3 g (i) (n + 1 - i) dc ⟨vb, 0, none⟩ 1 1 L1.toArray 3 ys 1 Try.underlying37 hsz hW
      (by rw [hmin, hy]) (fun j u hu => by
        rw [Addr.add_lit, Nat.zero_add, cell_of_row W vb _ ys.toArray 3 (0, 0) (by rw [hV]; exact hb)]
        simpa using hu) (by rw [List.size_toArray, hL1l, hy]; omega) h1y
    rw [hmin] at this
    rw [this]
    congr 2
    exact congrArg List.toArray (over_get (by rw [hL1l, hy]; omega))
  have hfin : ∀ (W : World), W.heap[g]? = some (.cells L1.toArray 3 (0, 0)) → (W.setRow g (spl L1 (i) ys).toArray).ownsRow base 3 1 (.slice (some ⟨g, 0, none⟩) (n + 1) c) (n + 1) (xs.take (i) ++ ys ++ xs.drop (i)) := fun W hW => by
    refine ⟨by simp only [List.length_append, List.length_take, List.length_drop, hxl, hy]; omega, .inr ⟨g, c, _, rfl, hbg, setRow_heap W g _ _ 3 _ hW, by omega, by unfold maxLen; omega, ?_, ?_⟩⟩
    · rw [List.size_toArray, length_spl _ _ _ (by rw [hL1l, hy]; omega), hL1l]
    · rw [hL1]
      exact ins_lists hxl hy (by rw [hxl]; omega) (by rw [Array.length_toList, hcs]; omega) ht
  have HF := Lib.hid hfin
  have hgw := Lib.hid hg
  have hvb := Lib.hid (show ∀ (W : World) (cs : Array Value), W.heap = w.heap → (W.setRow g cs).heap[vb]? = w.heap[vb]? from fun W cs hW => (setRow_other W g vb cs (fun e => hne e)).trans (by rw [hW]))
  have hcg : ¬ (c = i) := by omega
  have hcg1 : ¬ (c = i + 1) := by omega
  have hwr : IntKind.i64.wrap ((i : Int) + 1) = (i : Int) + 1 := by rw [IntKind.wrap_i64]; omega
  have hb1 : (0 : Int) ≤ (i : Int) + 1 := by omega
  have htn : ((i : Int) + 1).toNat = i + 1 := by omega
  have hb2 : (i : Int) ≤ (n : Int) + 1 := by omega
  have hb3 : (i : Int) + 1 ≤ (n : Int) + 1 := by omega
  clear hfin ho hb hy h1x h1y hg hcs ht hxl hL1 hL1l hsz hbg hne
  go_enter Try.func24, Try.ntmps24
  go_wp2_with (simp only [hov])
  refine rp_enter [] (fun _ => True) (by kernel_rfl) ?_
  apply rp_pure 0 rfl (by kernel_rfl) (fun _ _ _ h => h) rfl
  · (intro W; go_simp; try rfl)
  · (go_simp; try rfl)
  apply rp_pure 1 rfl (by kernel_rfl) (fun _ _ _ h => h) rfl
  · (intro W; go_simp; try rfl)
  · (go_simp; try rfl)
  apply rp_pure 2 rfl (by kernel_rfl) (fun _ _ _ h => h) rfl
  · (intro W; go_simp; try rfl)
  · (go_simp; try rfl)
  apply rp_pure 3 rfl (by kernel_rfl) (fun _ _ _ h => h) rfl
  · (intro W; go_simp; try rfl)
  · (go_simp; try rfl)
  apply rp_pure 4 rfl (by kernel_rfl) (fun _ _ _ h => h) rfl
  · (intro W; go_simp; try rfl)
  · (go_simp; try rfl)
  apply rp_pure 5 rfl (by kernel_rfl) (fun _ _ _ h => h) rfl
  · (intro W; go_simp; try rfl)
  · (go_simp; try rfl)
  apply rp_pure 6 rfl (by kernel_rfl) (fun _ _ _ h => h) rfl
  · (intro W; go_simp; try rfl)
  · (go_simp; try rfl)
  apply rp_pure 7 rfl (by kernel_rfl) (fun _ _ _ h => h) rfl
  · (intro W; go_simp; try rfl)
  · (go_simp; try rfl)
  refine rp_only 8 (by kernel_rfl) rfl (fun K hK => ?_)
  refine step_copy_R rfl _ _ 37 37 rfl (by rfl) (by rfl) (hcp1 w.drew rfl _ _ _) ?_
  refine hK _ _ ⟨fun _ _ => trivial, ?_⟩; clear hK K
  refine rp_done (by kernel_rfl) ?_
  have hg1 := setRow_heap w.drew g cur L1.toArray 3 (0, 0) hgw.out
  go_wp2_with (with_reducible refine wpList_copy_R rfl (.tmp 80) (.tmp 81) _ _ rfl rfl rfl (hcp2 _ hg1 (hvb.out w.drew _ rfl) _ _) ?_)
  go_ret
  exact ⟨_, rfl, HF.out _ hg1, ((show w.grownBy w.drew (some g) from ⟨rfl, rfl, rfl, Nat.le_refl _, fun _ _ _ => rfl⟩).trans (setRow_grown rfl)).trans (setRow_grown rfl), rfl⟩

set_option maxHeartbeats 4000000 in
theorem insI_grow (g n i : Nat) (xs ys : List Value) (vb base : Nat) (w : World) (ho : w.ownsRow base 3 1 (.slice (some ⟨g, 0, none⟩) n n) n xs) (hb : Blk w vb 3 ys.toArray) (hy : ys.length = 1)
    (h1x : ∀ u ∈ xs, u.oneCell' = true) (h1y : ∀ u ∈ ys, u.oneCell' = true) (hi : i < n) (hn : n ≤ 1000000) (hbase : base ≤ w.heap.size) :
    Calls Try.prog 24 #[.slice (some ⟨g, 0, none⟩) n n, .int .i64 i, .slice (some ⟨vb, 0, none⟩) 1 1] w fun e w' => ∃ v', e = .returned v' ∧ w'.ownsRow base 3 1 v' (n + 1) (xs.take (i) ++ ys ++ xs.drop (i)) ∧ w.grownBy w' (some g) ∧
      v'.ownBlock = some w.heap.size := by
  have hsz : (Try.prog.info? 3).map (·.size) = some 1 := by kernel_rfl
  obtain ⟨i0, hi0, hz0, hz1, hz2⟩ := info_parts (show (Try.prog.info? 3).map (fun i => (i.zero, i.size, i.bytes)) = some (some (.int .i64 0), 1, 8) by kernel_rfl)
  rcases ho.2 with ⟨e, _⟩ | ⟨g', c', cur, e, hbg, hg, hnc, hcm, hcs, ht⟩
  · cases e
  cases e
  have hxl := ho.1
  have hcl := ho.cells (g := g) rfl
  have hold : (Builtin.firstCells i0.size i (.slice (some ⟨g, 0, none⟩) i n)).run Try.prog w.drew = .ok (xs.take (i)).toArray w.drew := by
    rw [hz1]
    exact run_firstCells_some w.drew 1 i ⟨g, 0, none⟩ i n (xs.take (i)) (by rw [List.length_take]; omega) (fun j v hj => by
      rw [List.getElem?_take] at hj
      split at hj
      · exact hcl j v hj
      · cases hj)
  have hrz : ∀ ty, (Builtin.append_ #[37, 3] ty #[.slice (some ⟨g, 0, none⟩) i n, .int .i64 ((n : Int) + 1 - (i : Int))]).run Try.prog w =
      .ok (.slice (some ⟨w.heap.size, 0, none⟩) (n + 1) (grownCap w (n + 1) n 3)) (w.drew.alloc (.cells ((xs.take (i)).toArray ++ Builtin.zeroCells ((.int .i64 0) : Value).cells (n + 1 - i) ++ Builtin.zeroCells ((.int .i64 0) : Value).cells (grownCap w (n + 1) n 3 - (n + 1))) 3)) := fun ty => by
    have hik : i + (n + 1 - i) = n + 1 := by omega
    have h := Lib.run_append_grow_zeros (P := Try.prog) w 37 3 ty 3 i0 _ .i64 .i64 Try.underlying37 Try.underlying3 hi0 hz0 (some ⟨g, 0, none⟩) i n (xs.take (i)) hold (n + 1 - i) (by omega) (by omega) (by omega) (by omega) (by rw [hz2]; omega) (by rw [hz2, hik]; exact growslice_fits (by omega) (by omega))
    rw [hik] at h
    rw [show (n : Int) + 1 - (i : Int) = ((n + 1 - i : Nat) : Int) by omega]
    exact h
  obtain ⟨G, hG⟩ : ∃ G, G = grownCap w (n + 1) n 3 := ⟨_, rfl⟩
  have hGn : n + 1 ≤ G := by rw [hG]; exact grownCap_ge w _ _ _
  have hGm : G ≤ maxLen := by rw [hG]; exact grownCap_le_maxLen w (n + 1) n 3 (by unfold maxLen; omega)
  obtain ⟨ROW, hROW⟩ : ∃ ROW : List Value, ROW = xs.take (i) ++ ((Builtin.zeroCells ((.int .i64 0) : Value).cells (n + 1 - i)).toList ++ (Builtin.zeroCells ((.int .i64 0) : Value).cells (G - (n + 1))).toList) := ⟨_, rfl⟩
  have hRa : (xs.take (i)).toArray ++ Builtin.zeroCells ((.int .i64 0) : Value).cells (n + 1 - i) ++ Builtin.zeroCells ((.int .i64 0) : Value).cells (G - (n + 1)) = ROW.toArray := by rw [hROW]; apply Array.toList_inj.1; simp
  have hRl : ROW.length = G * 1 := by
    rw [hROW]
    simp only [List.length_append, List.length_take, Array.length_toList, size_zeroCells, hxl]
    simp only [Value.cells, List.size_toArray, List.length_cons, List.length_nil]
    omega
  have hRt : ROW.take (i) = xs.take (i) := by
    rw [hROW, List.take_append_of_le_length (by rw [List.length_take]; omega), List.take_take, Nat.min_self]
  rw [← hG, hRa] at hrz
  have hcpA : ∀ (W : World), W.heap[w.heap.size]? = some (.cells ROW.toArray 3 (0, 0)) → W.heap[vb]? = w.heap[vb]? → ∀ ty dc, (Builtin.copy_ #[37, 37] ty #[.slice (some ⟨w.heap.size, i, none⟩) (n + 1 - i) dc, .slice (some ⟨vb, 0, none⟩) 1 1]).run Try.prog W = .ok (goInt 1) (W.setRow w.heap.size (spl ROW (i) ys).toArray) := fun W hW hV ty dc => by
    have hmin : Nat.min 1 (n + 1 - i) = 1 := by simp only [Nat.min_def]; split <;> omega
    have := run_copy_K (P := Try.prog) W 37 37 ty 3 w.heap.size (i) (n + 1 - i) dc ⟨vb, 0, none⟩ 1 1 ROW.toArray 3 ys 1 Try.underlying37 hsz hW
      (by rw [hmin, hy]) (fun j u hu => by
        rw [Addr.add_lit, Nat.zero_add, cell_of_row W vb _ ys.toArray 3 (0, 0) (by rw [hV]; exact hb)]
        simpa using hu) (by rw [List.size_toArray, hRl, hy]; omega) h1y
    rw [hmin] at this
    rw [this]
    congr 2
    exact congrArg List.toArray (over_get (by rw [hRl, hy]; omega))
  obtain ⟨L1, hL1⟩ : ∃ L1, L1 = spl ROW (i) ys := ⟨_, rfl⟩
  have hL1l : L1.length = G * 1 := by rw [hL1, length_spl _ _ _ (by rw [hRl, hy]; omega), hRl]
  rw [← hL1] at hcpA
  have hcpB : ∀ (W : World), W.heap[w.heap.size]? = some (.cells L1.toArray 3 (0, 0)) → W.heap[g]? = w.heap[g]? → ∀ ty dc sc, (Builtin.copy_ #[37, 37] ty #[.slice (some ⟨w.heap.size, i + 1, none⟩) (n - i) dc, .slice (some ⟨g, i, none⟩) (n - i) sc]).run Try.prog W = .ok (goInt ((n - i : Nat) : Int)) (W.setRow w.heap.size (spl L1 (i + 1) (xs.drop (i))).toArray) := fun W hW hV ty dc sc => by
    have hmin : Nat.min (n - i) (n - i) = n - i := Nat.min_self _
    have := run_copy_K (P := Try.prog) W 37 37 ty 3 w.heap.size (i + 1) (n - i) dc ⟨g, i, none⟩ (n - i) sc L1.toArray 3 (xs.drop (i)) 1 Try.underlying37 hsz hW
      (by rw [hmin, List.length_drop, hxl]; omega) (fun j u hu => by
        rw [List.getElem?_drop, ← ht, List.getElem?_take] at hu
        split at hu
        · rw [Addr.add_lit, cell_of_row W g _ cur 3 (0, 0) (by rw [hV]; exact hg)]
          simpa using hu
        · cases hu) (by rw [List.length_drop, hxl, List.size_toArray, hL1l]; omega) (fun u hu => h1x u (List.mem_of_mem_drop hu))
    rw [hmin] at this
    rw [this]
    congr 2
    have e : (i + 1) = i + 1 := by omega
    rw [e]
    exact congrArg List.toArray (over_get (by rw [List.length_drop, hxl, hL1l]; omega))
  have hlg := (Array.getElem?_eq_some_iff.1 hg).1
  have hlv := hb.lt
  have hfin : ∀ (W : World), W.heap[w.heap.size]? = some (.cells L1.toArray 3 (0, 0)) → (W.setRow w.heap.size (spl L1 (i + 1) (xs.drop (i))).toArray).ownsRow base 3 1 (.slice (some ⟨w.heap.size, 0, none⟩) (n + 1) G) (n + 1) (xs.take (i) ++ ys ++ xs.drop (i)) := fun W hW => by
    refine ⟨by simp only [List.length_append, List.length_take, List.length_drop, hxl, hy]; omega, .inr ⟨w.heap.size, G, _, rfl, hbase, setRow_heap W w.heap.size _ _ 3 _ hW, hGn, hGm, ?_, ?_⟩⟩
    · rw [List.size_toArray, length_spl _ _ _ (by rw [List.length_drop, hxl, hL1l]; omega), hL1l]
    · rw [hL1]
      exact ins_lists2 hxl hy (by rw [hxl]; omega) (by rw [hRl]; omega) hRt
  have HF := Lib.hid hfin
  obtain ⟨W1, hW1⟩ : ∃ W1, W1 = w.drew.alloc (.cells ROW.toArray 3) := ⟨_, rfl⟩
  have hn1 : W1.heap[w.heap.size]? = some (.cells ROW.toArray 3 (0, 0)) := by rw [hW1]; exact heap_alloc_new w.drew _
  have ho1 : ∀ k, k < w.heap.size → W1.heap[k]? = w.heap[k]? := fun k hk => by rw [hW1]; exact Below.heap_alloc w.drew _ k hk
  have hgr1 : w.grownBy W1 (some g) := by rw [hW1]; exact (show w.grownBy w.drew (some g) from ⟨rfl, rfl, rfl, Nat.le_refl _, fun _ _ _ => rfl⟩).trans (World.grownBy_alloc _ _ _)
  rw [← hW1] at hrz
  have hcA := hcpA W1 hn1 (ho1 vb hlv)
  have hn2 := setRow_heap W1 w.heap.size _ L1.toArray 3 (0, 0) hn1
  have hcB := hcpB (W1.setRow w.heap.size L1.toArray).drew hn2 ((setRow_other W1 w.heap.size g _ (by omega)).trans (ho1 g hlg))
  have hgr2 : w.grownBy ((W1.setRow w.heap.size L1.toArray).drew.setRow w.heap.size (spl L1 (i + 1) (xs.drop (i))).toArray) (some g) :=
    ⟨hgr1.os, hgr1.tape, hgr1.output, by simpa [World.setRow, World.drew] using hgr1.size, fun k hk hne => (setRow_other _ _ k _ (by omega)).trans ((setRow_other W1 _ k _ (by omega)).trans (ho1 k hk))⟩
  have HG := Lib.hid (And.intro (hfin (W1.setRow w.heap.size L1.toArray).drew hn2) hgr2)
  have hwr : IntKind.i64.wrap ((i : Int) + 1) = (i : Int) + 1 := by rw [IntKind.wrap_i64]; omega
  have hb1 : (0 : Int) ≤ (i : Int) + 1 := by omega
  have htn : ((i : Int) + 1).toNat = i + 1 := by omega
  have hb2 : (i : Int) ≤ (n : Int) + 1 := by omega
  have hb3 : (i : Int) + 1 ≤ (n : Int) + 1 := by omega
  have hb4 : (i : Int) ≤ (n : Int) := by omega
  have hnlt : (i : Int) < n := by omega
  have hne' : ¬ ((i : Int) = n) := by omega
  have hgi : ¬ (G = i) := by omega
  have hgi1 : ¬ (G = i + 1) := by omega
  have hni : ¬ (n = i) := by omega
  unfold maxLen at hGm
  clear hfin ho hb hy h1x h1y hg hcs ht hxl hcl hL1 hL1l hsz hbg hz0 hz1 hz2 hi0 hold hG hROW hRa hRl hRt hW1 ho1 hgr1 hgr2 hcpA hcpB hn1 hn2 hcm hlg hlv hbase HF
  have hrz := hrz
  go_enter Try.func24, Try.ntmps24
  go_wp2_with (first | (with_reducible refine wpList_append_run' rfl (.tmp 34) (.tmp 39) _ _ rfl rfl rfl (hrz _) ?_) | (with_reducible refine wpList_copy_R rfl (.tmp 43) (.tmp 44) _ _ rfl rfl rfl (hcA _ _) ?_))
  refine rp_enter [] (fun _ => True) (by kernel_rfl) ?_
  apply rp_pure 0 rfl (by kernel_rfl) (fun _ _ _ h => h) rfl
  · (intro W; go_simp; try rfl)
  · (go_simp; try rfl)
  apply rp_pure 1 rfl (by kernel_rfl) (fun _ _ _ h => h) rfl
  · (intro W; go_simp; try rfl)
  · (go_simp; try rfl)
  apply rp_pure 2 rfl (by kernel_rfl) (fun _ _ _ h => h) rfl
  · (intro W; go_simp; try rfl)
  · (go_simp; try rfl)
  apply rp_pure 3 rfl (by kernel_rfl) (fun _ _ _ h => h) rfl
  · (intro W; go_simp; try rfl)
  · (go_simp; try rfl)
  apply rp_pure 4 rfl (by kernel_rfl) (fun _ _ _ h => h) rfl
  · (intro W; go_simp; try rfl)
  · (go_simp; try rfl)
  apply rp_pure 5 rfl (by kernel_rfl) (fun _ _ _ h => h) rfl
  · (intro W; go_simp; try rfl)
  · (go_simp; try rfl)
  apply rp_pure 6 rfl (by kernel_rfl) (fun _ _ _ h => h) rfl
  · (intro W; go_simp; try rfl)
  · (go_simp; try rfl)
  apply rp_pure 7 rfl (by kernel_rfl) (fun _ _ _ h => h) rfl
  · (intro W; go_simp; try rfl)
  · (go_simp; try rfl)
  refine rp_only 8 (by kernel_rfl) rfl (fun K hK => ?_)
  refine step_copy_R rfl _ _ 37 37 rfl (by rfl) (by rfl) (hcB _ _ _) ?_
  refine hK _ _ ⟨fun _ _ => trivial, ?_⟩; clear hK K
  refine rp_done (by kernel_rfl) ?_
  go_wp2
  go_ret
  exact ⟨_, rfl, HG.out.1, HG.out.2, rfl⟩

/-- slices.Insert of one element. -/
theorem insI_any (v : Value) (n i : Nat) (xs ys : List Value) (vb base : Nat) (w : World) (ho : w.ownsRow base 3 1 v n xs) (hb : Blk w vb 3 ys.toArray) (hy : ys.length = 1)
    (h1x : ∀ u ∈ xs, u.oneCell' = true) (h1y : ∀ u ∈ ys, u.oneCell' = true) (hne : v.ownBlock ≠ some vb) (hi : i ≤ n) (hn : n ≤ 1000000) (hbase : base ≤ w.heap.size) :
    Calls Try.prog 24 #[v, .int .i64 i, .slice (some ⟨vb, 0, none⟩) 1 1] w fun e w' => ∃ v', e = .returned v' ∧ w'.ownsRow base 3 1 v' (n + 1) (xs.take (i) ++ ys ++ xs.drop (i)) ∧ w.grownBy w' v.ownBlock ∧
      (v'.ownBlock = v.ownBlock ∨ v'.ownBlock = some w.heap.size) := by
  by_cases hin : i = n
  · subst hin
    refine (insI_end v i xs ys vb base w ho hb hy h1y hn hbase).mono ?_
    rintro e w' ⟨v', h1, h2, h3, h4⟩
    refine ⟨v', h1, ?_, h3, h4⟩
    rw [List.take_of_length_le (by rw [ho.1]; omega), List.drop_eq_nil_of_le (by rw [ho.1]; omega), List.append_nil]
    exact h2
  · rcases id ho.2 with ⟨rfl, rfl⟩ | ⟨g, c, cur, rfl, hbg, hg, hnc, hcm, hcs, ht⟩
    · omega
    · by_cases hc : n + 1 ≤ c
      · exact (insI_shift g c n i xs ys vb base w ho hb hy h1x h1y (fun e => hne (by rw [e]; rfl)) (by omega) hc hn).mono fun e w' ⟨v', h1, h2, h3, h4⟩ => ⟨v', h1, h2, h3, .inl h4⟩
      · obtain rfl : c = n := by omega
        exact (insI_grow g c i xs ys vb base w ho hb hy h1x h1y (by omega) hn hbase).mono fun e w' ⟨v', h1, h2, h3, h4⟩ => ⟨v', h1, h2, h3, .inr h4⟩
end Go.Proofs.Ytombdkdidnoomaa
