/-
slices.Insert of one element into a row of the call's own: the row with the element in its place.
-/
import Derived.Test.YtombdkdidnoomaaLRis
import Derived.Lib.Overlaps
import Derived.Lib.AppendZerosOnto
import Derived.Laws.Externs
namespace Go.Proofs.Ytombdkdidnoomaa
open Go.RowKit
attribute [local go_sem ↓] Go.wp_at_zero Go.wp_at_succ

theorem run_copy_K {P : Program} (w : World) (dT sT ty elem : TypeId) (g o dLen dCap : Nat) (a : Addr) (sLen sCap : Nat) (cur : Array Value) (t : TypeId) (cs : List Value) (sz : Nat)
    (hu : P.underlying dT = some (.slice elem)) (hs : (P.info? elem).map (·.size) = some sz)
    (hg : w.heap[g]? = some (.cells cur t (0, 0))) (hn : cs.length = Nat.min sLen dLen * sz)
    (hsrc : ∀ j v, cs[j]? = some v → w.cell? (a.add j) = some v) (hfit : o + cs.length ≤ cur.size) (h1 : ∀ v ∈ cs, v.oneCell' = true) :
    (Builtin.copy_ #[dT, sT] ty #[.slice (some ⟨g, o, none⟩) dLen dCap, .slice (some a) sLen sCap]).run P w =
      .ok (goInt (Nat.min sLen dLen)) (w.setRow g (cur.toList.take o ++ cs ++ cur.toList.drop (o + cs.length)).toArray) := by
  have hl := run_loadCells_list (P := P) w a cs hsrc
  have hst := run_storeCells_at P g o t cs 0 cur w hg (by simpa using hfit) h1
  cases hq : P.info? elem with
  | none => simp [hq] at hs
  | some i =>
    have hi : i.size = sz := by simpa [hq] using hs
    have e' : Nat.min sLen dLen * sz = cs.length := hn.symm
    simp [Builtin.copy_, run_underlying hu, Builtin.lenOf, Builtin.firstCells, sizeOf, typeInfo, hq, hi, e', hl, hst]

theorem step_copy_R {P : Program} {ops : Array Oper} {o : Oper} {a : Act} {w : World} {K : Act → World → Prop} {Q : Exit → Act → World → Prop} {E : Prop}
    (hg : o.guard = none) (d x : Operand) (dT sT : TypeId) (hop : o.op = Op.call { callee := Callee.builtin Builtin.copy, args := #[d, x], argTypes := #[dT, sT] })
    {v u : Value} (hd : a.eval d = v) (hx : a.eval x = u) {v' : Value} {w' : World} (hr : (Builtin.copy_ #[dT, sT] o.type #[v, u]).run P w = .ok v' w') (hK : K (a.put o.dst v') w') :
    if Region.wanted o (yielded ops a.tmps) = true then Oper.wp P o a w K Q else E := by
  have hw : Region.wanted o (yielded ops a.tmps) = true := by simp [Region.wanted, hg]
  rw [if_pos hw]
  unfold Oper.wp
  simp [execOp, hop, resolve, invoke, builtin, hd, hx, hr, Result.andThen]
  exact hK
theorem wpList_copy_R {P : Program} {w : World} {ops : Array Oper} {rest : List Oper} {o : Oper} {a : Act} {Q : Exit → Act → World → Prop} (hgd : o.guard = none) (d s : Operand) (t t' : TypeId)
    (ho : o.op = .call { callee := .builtin .copy, args := #[d, s], argTypes := #[t, t'] }) {v u : Value} (hd : a.eval d = v) (hs : a.eval s = u) {v' : Value} {w' : World}
    (hr : (Builtin.copy_ #[t, t'] o.type #[v, u]).run P w = .ok v' w') (h : wpList P ops Q rest (a.put o.dst v') w') : wpList P ops Q (o :: rest) a w := by
  refine wpList_plain hgd fun _ hK => ?_
  unfold Oper.wp execOp
  simp only [ho, resolve, invoke, builtin, Sem.run_bind, Sem.run_pure, Result.andThen_ok, List.map_toArray, List.map_cons, List.map_nil, hd, hs, hr]
  exact hK _ _ h
theorem wpList_append_run' {P : Program} {w : World} {ops : Array Oper} {rest : List Oper} {o : Oper} {a : Act} {Q : Exit → Act → World → Prop} (hgd : o.guard = none) (d s : Operand) (t t' : TypeId)
    (ho : o.op = .call { callee := .builtin .append, args := #[d, s], argTypes := #[t, t'] }) {v u : Value} (hd : a.eval d = v) (hs : a.eval s = u) {v' : Value} {w' : World}
    (hr : (Builtin.append_ #[t, t'] o.type #[v, u]).run P w = .ok v' w') (h : wpList P ops Q rest (a.put o.dst v') w') : wpList P ops Q (o :: rest) a w := by
  refine wpList_plain hgd fun _ hK => ?_
  unfold Oper.wp execOp
  simp only [ho, resolve, invoke, builtin, Sem.run_bind, Sem.run_pure, Result.andThen_ok, List.map_toArray, List.map_cons, List.map_nil, hd, hs, hr]
  exact hK _ _ h

/-- cs laid over L from place o on. -/
def spl {α : Type} (L : List α) (o : Nat) (cs : List α) : List α := L.take o ++ (cs ++ L.drop (o + cs.length))
theorem length_spl {α : Type} (L : List α) (o : Nat) (cs : List α) (h : o + cs.length ≤ L.length) : (spl L o cs).length = L.length := by simp [spl]; omega
theorem setRow_grown {w : World} {g : Nat} {cs : Array Value} {row : Option Nat} (h : row = some g) : w.grownBy (w.setRow g cs) row :=
  ⟨rfl, rfl, rfl, by simp [World.setRow], fun k _ hne => setRow_other w g k cs (fun e => hne (by rw [h, e]))⟩
/-- A list with something laid over it. -/
theorem over_get {α : Type} {L cs : List α} {o : Nat} (_ : o + cs.length ≤ L.length) : L.take o ++ cs ++ L.drop (o + cs.length) = spl L o cs := by simp [spl]
theorem ins_lists {xs ys : List Value} {cur : List Value} {p n sz : Nat} (hx : xs.length = n * sz) (hy : ys.length = sz) (hp : p ≤ xs.length) (hc : (n + 1) * sz ≤ cur.length) (ht : cur.take (n * sz) = xs) :
    (spl (spl cur (p + sz) (xs.drop p)) p ys).take ((n + 1) * sz) = xs.take p ++ ys ++ xs.drop p := by
  have hp' : cur.take p = xs.take p := by rw [← ht, List.take_take]; congr 1; omega
  have e : (n + 1) * sz = n * sz + sz := by rw [Nat.add_mul, Nat.one_mul]
  have hdl : (xs.drop p).length = n * sz - p := by rw [List.length_drop, hx]
  unfold spl
  have a1 : ((cur.take (p + sz)) ++ (xs.drop p ++ cur.drop (p + sz + (xs.drop p).length))).take p = xs.take p := by
    rw [List.take_append_of_le_length (by rw [List.length_take]; omega), List.take_take]
    rw [← hp']; congr 1; omega
  have a2 : ((cur.take (p + sz)) ++ (xs.drop p ++ cur.drop (p + sz + (xs.drop p).length))).drop (p + ys.length) = xs.drop p ++ cur.drop (p + sz + (xs.drop p).length) := by
    rw [List.drop_left' (by rw [List.length_take]; omega)]
  rw [a1, a2, ← List.append_assoc, ← List.append_assoc, List.take_left' (by rw [List.length_append, List.length_append, List.length_take, hdl]; omega)]
theorem ins_lists2 {xs ys cur : List Value} {p n sz : Nat} (hx : xs.length = n * sz) (hy : ys.length = sz) (hp : p ≤ xs.length) (hc : (n + 1) * sz ≤ cur.length) (ht : cur.take p = xs.take p) :
    (spl (spl cur p ys) (p + sz) (xs.drop p)).take ((n + 1) * sz) = xs.take p ++ ys ++ xs.drop p := by
  have e : (n + 1) * sz = n * sz + sz := by rw [Nat.add_mul, Nat.one_mul]
  have hdl : (xs.drop p).length = n * sz - p := by rw [List.length_drop, hx]
  unfold spl
  have hl : (cur.take p).length = p := by rw [List.length_take]; omega
  have a1 : (cur.take p ++ (ys ++ cur.drop (p + ys.length))).take (p + sz) = xs.take p ++ ys := by
    rw [← List.append_assoc, List.take_left' (by rw [List.length_append, hl, hy]), ht]
  rw [a1, ← List.append_assoc, List.take_left' (by rw [List.length_append, List.length_append, List.length_take, hdl]; omega)]

set_option maxHeartbeats 4000000 in
theorem insL_end (v : Value) (n : Nat) (xs ys : List Value) (vb base : Nat) (w : World) (ho : w.ownsRow base 39 3 v n xs) (hb : Blk w vb 39 ys.toArray) (hy : ys.length = 3)
    (h1y : ∀ u ∈ ys, u.oneCell' = true) (hn : n ≤ 1000000) (hbase : base ≤ w.heap.size) :
    Calls Try.prog 41 #[v, .int .i64 n, .slice (some ⟨vb, 0, none⟩) 1 1] w fun e w' => ∃ v', e = .returned v' ∧ w'.ownsRow base 39 3 v' (n + 1) (xs ++ ys) ∧ w.grownBy w' v.ownBlock ∧
      (v'.ownBlock = v.ownBlock ∨ v'.ownBlock = some w.heap.size) := by
  obtain ⟨i0, hi0, hz0, hz1, hz2⟩ := info_parts (show (Try.prog.info? 39).map (fun i => (i.zero, i.size, i.bytes)) = some (some (.agg #[.int .i64 0, .slice none 0 0, .int .i64 0]), 3, 40) by kernel_rfl)
  obtain ⟨v', w2, hrun, h2, h3, h4, h5⟩ := run_append_own_at (P := Try.prog) w base 22 22 39 i0 _ 3 40 Try.underlying22 hi0 hz0 hz1 hz2 rfl (by omega) v n xs ho ⟨vb, 0, none⟩ 1 1 ys (by omega)
    (fun j u hu => by rw [Addr.add_lit, Nat.zero_add, hb.cell]; simpa using hu) h1y (by unfold maxLen; omega) (by omega) hbase
  have H2 := Lib.hid (And.intro h2 (And.intro h3 h5))
  rcases ho.2 with ⟨rfl, rfl⟩ | ⟨g, c, cur, rfl, hbg, hg, hnc, hcm, hcs, ht⟩
  · clear h2 h3 h4 h5 hz0 hz1 hz2 hi0 ho hb hy h1y hbase
    go_enter Try.func41, Try.ntmps41
    go_wp2_with (at_builtin; refine wpList_append_run' rfl _ _ _ _ rfl (by rfl) (by rfl) hrun ?_)
    go_ret
    exact ⟨_, rfl, H2.out⟩
  · unfold maxLen at hcm
    have hg' := Lib.hid hg
    have hn0 : (0 : Int) ≤ n := by omega
    clear h2 h3 h4 h5 hz0 hz1 hz2 hi0 ho hb hy h1y hbase hg hcs ht
    by_cases hcn : c = n
    · subst hcn
      go_enter Try.func41, Try.ntmps41
      go_wp2_with (at_builtin; refine wpList_append_run' rfl _ _ _ _ rfl (by rfl) (by rfl) hrun ?_)
      go_ret
      exact ⟨_, rfl, H2.out⟩
    · go_enter Try.func41, Try.ntmps41
      go_wp2_with (at_builtin; refine wpList_append_run' rfl _ _ _ _ rfl (by rfl) (by rfl) hrun ?_)
      go_ret
      exact ⟨_, rfl, H2.out⟩

set_option maxHeartbeats 4000000 in
theorem insL_shift (g c n i : Nat) (xs ys : List Value) (vb base : Nat) (w : World) (ho : w.ownsRow base 39 3 (.slice (some ⟨g, 0, none⟩) n c) n xs) (hb : Blk w vb 39 ys.toArray) (hy : ys.length = 3)
    (h1x : ∀ u ∈ xs, u.oneCell' = true) (h1y : ∀ u ∈ ys, u.oneCell' = true) (hne : vb ≠ g) (hi : i < n) (hroom : n + 1 ≤ c) (hn : n ≤ 1000000) :
    Calls Try.prog 41 #[.slice (some ⟨g, 0, none⟩) n c, .int .i64 i, .slice (some ⟨vb, 0, none⟩) 1 1] w fun e w' => ∃ v', e = .returned v' ∧ w'.ownsRow base 39 3 v' (n + 1) (xs.take (i * 3) ++ ys ++ xs.drop (i * 3)) ∧ w.grownBy w' (some g) ∧
      v'.ownBlock = some g := by
  have hsz : (Try.prog.info? 39).map (·.size) = some 3 := by kernel_rfl
  rcases ho.2 with ⟨e, _⟩ | ⟨g', c', cur, e, hbg, hg, hnc, hcm, hcs, ht⟩
  · cases e
  cases e
  have hxl := ho.1
  have hov : ∀ lb cb, (callFunc 52 #[.slice (some ⟨vb, 0, none⟩) 1 1, .slice (some ⟨g, (i + 1) * 3, none⟩) lb cb]).run Try.prog w = .ok (.value (.bool false)) w := fun lb cb => by
    rw [run_callFunc_extern Try.func52 (by kernel_rfl) (by kernel_rfl) (by kernel_rfl) (e := Extern.SlicesOverlaps.overlaps #[22, 22] #[4]) (by kernel_rfl),
      Lib.run_overlaps_apart w 22 4 39 Try.underlying22 3 (fun _ => by kernel_rfl) ⟨vb, 0, none⟩ ⟨g, (i + 1) * 3, none⟩ 1 1 lb cb hne 39 39 ys.length cur.size
        (by unfold Blk at hb; simp [World.shape?, hb]) (by simp [World.shape?, hg]) (by omega) (hb.frozen 0) (hb.frozen _)]
    rfl
  have hnlt : (i : Int) < n := by omega
  have hne' : ¬ ((i : Int) = n) := by omega
  have hroom' : (n : Int) + 1 ≤ c := by omega
  unfold maxLen at hcm
  have hcp1 : ∀ (W : World), W.heap = w.heap → ∀ ty dc sc, (Builtin.copy_ #[22, 22] ty #[.slice (some ⟨g, (i + 1) * 3, none⟩) (n - i) dc, .slice (some ⟨g, i * 3, none⟩) (n + 1 - i) sc]).run Try.prog W = .ok (goInt ((n - i : Nat) : Int)) (W.setRow g (spl cur.toList (i * 3 + 3) (xs.drop (i * 3))).toArray) := fun W hW ty dc sc => by
    have hmin : Nat.min (n + 1 - i) (n - i) = n - i := by simp only [Nat.min_def]; split <;> omega
    have := run_copy_K (P := Try.prog) W 22 22 ty 39 g ((i + 1) * 3) (n - i) dc ⟨g, i * 3, none⟩ (n + 1 - i) sc cur 39 (xs.drop (i * 3)) 3 Try.underlying22 hsz (by rw [hW]; exact hg)
      (by rw [hmin, List.length_drop, hxl, Nat.sub_mul]) (fun j u hu => by
        rw [List.getElem?_drop, ← ht, List.getElem?_take] at hu
        split at hu
        · rw [Addr.add_lit, cell_of_row W g _ cur 39 (0, 0) (by rw [hW]; exact hg)]
          simpa using hu
        · cases hu) (by rw [List.length_drop, hxl, hcs]; omega) (fun u hu => h1x u (List.mem_of_mem_drop hu))
    rw [hmin] at this
    rw [this]
    congr 2
    have e : ((i + 1) * 3) = i * 3 + 3 := by omega
    rw [e]
    exact congrArg List.toArray (over_get (by rw [List.length_drop, hxl, Array.length_toList, hcs]; omega))
  obtain ⟨L1, hL1⟩ : ∃ L1, L1 = spl cur.toList (i * 3 + 3) (xs.drop (i * 3)) := ⟨_, rfl⟩
  have hL1l : L1.length = c * 3 := by rw [hL1, length_spl _ _ _ (by rw [List.length_drop, hxl, Array.length_toList, hcs]; omega), Array.length_toList, hcs]
  rw [← hL1] at hcp1
  have hcp2 : ∀ (W : World), W.heap[g]? = some (.cells L1.toArray 39 (0, 0)) → W.heap[vb]? = w.heap[vb]? → ∀ ty dc, (Builtin.copy_ #[22, 22] ty #[.slice (some ⟨g, i * 3, none⟩) (n + 1 - i) dc, .slice (some ⟨vb, 0, none⟩) 1 1]).run Try.prog W = .ok (goInt 1) (W.setRow g (spl L1 (i * 3) ys).toArray) := fun W hW hV ty dc => by
    have hmin : Nat.min 1 (n + 1 - i) = 1 := by simp only [Nat.min_def]; split <;> omega
    have := run_copy_K (P := Try.prog) W 22 22 ty 39 g (i * 3) (n + 1 - i) dc ⟨vb, 0, none⟩ 1 1 L1.toArray 39 ys 3 Try.underlying22 hsz hW
      (by rw [hmin, hy]) (fun j u hu => by
        rw [Addr.add_lit, Nat.zero_add, cell_of_row W vb _ ys.toArray 39 (0, 0) (by rw [hV]; exact hb)]
        simpa using hu) (by rw [List.size_toArray, hL1l, hy]; omega) h1y
    rw [hmin] at this
    rw [this]
    congr 2
    exact congrArg List.toArray (over_get (by rw [hL1l, hy]; omega))
  have hfin : ∀ (W : World), W.heap[g]? = some (.cells L1.toArray 39 (0, 0)) → (W.setRow g (spl L1 (i * 3) ys).toArray).ownsRow base 39 3 (.slice (some ⟨g, 0, none⟩) (n + 1) c) (n + 1) (xs.take (i * 3) ++ ys ++ xs.drop (i * 3)) := fun W hW => by
    refine ⟨by simp only [List.length_append, List.length_take, List.length_drop, hxl, hy]; omega, .inr ⟨g, c, _, rfl, hbg, setRow_heap W g _ _ 39 _ hW, by omega, by unfold maxLen; omega, ?_, ?_⟩⟩
    · rw [List.size_toArray, length_spl _ _ _ (by rw [hL1l, hy]; omega), hL1l]
    · rw [hL1]
      exact ins_lists hxl hy (by rw [hxl]; omega) (by rw [Array.length_toList, hcs]; omega) ht
  have HF := Lib.hid hfin
  have hgw := Lib.hid hg
  have hvb := Lib.hid (show ∀ (W : World) (cs : Array Value), W.heap = w.heap → (W.setRow g cs).heap[vb]? = w.heap[vb]? from fun W cs hW => (setRow_other W g vb cs (fun e => hne e)).trans (by rw [hW]))
  have hcg : ¬ (c = i) := by omega
  have hcg1 : ¬ (c = i + 1) := by omega
  have hwr : IntKind.i64.wrap ((i : Int) + 1) = (i : Int) + 1 := by rw [IntKind.wrap_i64]; omega
  have hb1 : (0 : Int) ≤ (i : Int) + 1 := by omega
  have htn : ((i : Int) + 1).toNat = i + 1 := by omega
  have hb2 : (i : Int) ≤ (n : Int) + 1 := by omega
  have hb3 : (i : Int) + 1 ≤ (n : Int) + 1 := by omega
  clear hfin ho hb hy h1x h1y hg hcs ht hxl hL1 hL1l hsz hbg hne
  go_enter Try.func41, Try.ntmps41
  go_wp2_with (simp only [hov])
  refine rp_enter [] (fun _ => True) (by kernel_rfl) ?_
  apply rp_pure 0 rfl (by kernel_rfl) (fun _ _ _ h => h) rfl
  · (intro W; go_simp; try rfl)
  · (go_simp; try rfl)
  apply rp_pure 1 rfl (by kernel_rfl) (fun _ _ _ h => h) rfl
  · (intro W; go_simp; try rfl)
  · (go_simp; try rfl)
  apply rp_pure 2 rfl (by kernel_rfl) (fun _ _ _ h => h) rfl
  · (intro W; go_simp; try rfl)
  · (go_simp; try rfl)
  apply rp_pure 3 rfl (by kernel_rfl) (fun _ _ _ h => h) rfl
  · (intro W; go_simp; try rfl)
  · (go_simp; try rfl)
  apply rp_pure 4 rfl (by kernel_rfl) (fun _ _ _ h => h) rfl
  · (intro W; go_simp; try rfl)
  · (go_simp; try rfl)
  apply rp_pure 5 rfl (by kernel_rfl) (fun _ _ _ h => h) rfl
  · (intro W; go_simp; try rfl)
  · (go_simp; try rfl)
  apply rp_pure 6 rfl (by kernel_rfl) (fun _ _ _ h => h) rfl
  · (intro W; go_simp; try rfl)
  · (go_simp; try rfl)
  apply rp_pure 7 rfl (by kernel_rfl) (fun _ _ _ h => h) rfl
  · (intro W; go_simp; try rfl)
  · (go_simp; try rfl)
  refine rp_only 8 (by kernel_rfl) rfl (fun K hK => ?_)
  refine step_copy_R rfl _ _ 22 22 rfl (by rfl) (by rfl) (hcp1 w.drew rfl _ _ _) ?_
  refine hK _ _ ⟨fun _ _ => trivial, ?_⟩; clear hK K
  refine rp_done (by kernel_rfl) ?_
  have hg1 := setRow_heap w.drew g cur L1.toArray 39 (0, 0) hgw.out
  go_wp2_with (with_reducible refine wpList_copy_R rfl (.tmp 80) (.tmp 81) _ _ rfl rfl rfl (hcp2 _ hg1 (hvb.out w.drew _ rfl) _ _) ?_)
  go_ret
  exact ⟨_, rfl, HF.out _ hg1, ((show w.grownBy w.drew (some g) from ⟨rfl, rfl, rfl, Nat.le_refl _, fun _ _ _ => rfl⟩).trans (setRow_grown rfl)).trans (setRow_grown rfl), rfl⟩

set_option maxHeartbeats 4000000 in
theorem insL_grow (g n i : Nat) (xs ys : List Value) (vb base : Nat) (w : World) (ho : w.ownsRow base 39 3 (.slice (some ⟨g, 0, none⟩) n n) n xs) (hb : Blk w vb 39 ys.toArray) (hy : ys.length = 3)
    (h1x : ∀ u ∈ xs, u.oneCell' = true) (h1y : ∀ u ∈ ys, u.oneCell' = true) (hi : i < n) (hn : n ≤ 1000000) (hbase : base ≤ w.heap.size) :
    Calls Try.prog 41 #[.slice (some ⟨g, 0, none⟩) n n, .int .i64 i, .slice (some ⟨vb, 0, none⟩) 1 1] w fun e w' => ∃ v', e = .returned v' ∧ w'.ownsRow base 39 3 v' (n + 1) (xs.take (i * 3) ++ ys ++ xs.drop (i * 3)) ∧ w.grownBy w' (some g) ∧
      v'.ownBlock = some w.heap.size := by
  have hsz : (Try.prog.info? 39).map (·.size) = some 3 := by kernel_rfl
  obtain ⟨i0, hi0, hz0, hz1, hz2⟩ := info_parts (show (Try.prog.info? 39).map (fun i => (i.zero, i.size, i.bytes)) = some (some (.agg #[.int .i64 0, .slice none 0 0, .int .i64 0]), 3, 40) by kernel_rfl)
  rcases ho.2 with ⟨e, _⟩ | ⟨g', c', cur, e, hbg, hg, hnc, hcm, hcs, ht⟩
  · cases e
  cases e
  have hxl := ho.1
  have hcl := ho.cells (g := g) rfl
  have hold : (Builtin.firstCells i0.size i (.slice (some ⟨g, 0, none⟩) i n)).run Try.prog w.drew = .ok (xs.take (i * 3)).toArray w.drew := by
    rw [hz1]
    exact run_firstCells_some w.drew 3 i ⟨g, 0, none⟩ i n (xs.take (i * 3)) (by rw [List.length_take]; omega) (fun j v hj => by
      rw [List.getElem?_take] at hj
      split at hj
      · exact hcl j v hj
      · cases hj)
  have hrz : ∀ ty, (Builtin.append_ #[22, 3] ty #[.slice (some ⟨g, 0, none⟩) i n, .int .i64 ((n : Int) + 1 - (i : Int))]).run Try.prog w =
      .ok (.slice (some ⟨w.heap.size, 0, none⟩) (n + 1) (grownCap w (n + 1) n 39)) (w.drew.alloc (.cells ((xs.take (i * 3)).toArray ++ Builtin.zeroCells ((.agg #[.int .i64 0, .slice none 0 0, .int .i64 0]) : Value).cells (n + 1 - i) ++ Builtin.zeroCells ((.agg #[.int .i64 0, .slice none 0 0, .int .i64 0]) : Value).cells (grownCap w (n + 1) n 39 - (n + 1))) 39)) := fun ty => by
    have hik : i + (n + 1 - i) = n + 1 := by omega
    have h := Lib.run_append_grow_zeros (P := Try.prog) w 22 3 ty 39 i0 _ .i64 .i64 Try.underlying22 Try.underlying3 hi0 hz0 (some ⟨g, 0, none⟩) i n (xs.take (i * 3)) hold (n + 1 - i) (by omega) (by omega) (by omega) (by omega) (by rw [hz2]; omega) (by rw [hz2, hik]; exact growslice_fits (by omega) (by omega))
    rw [hik] at h
    rw [show (n : Int) + 1 - (i : Int) = ((n + 1 - i : Nat) : Int) by omega]
    exact h
  obtain ⟨G, hG⟩ : ∃ G, G = grownCap w (n + 1) n 39 := ⟨_, rfl⟩
  have hGn : n + 1 ≤ G := by rw [hG]; exact grownCap_ge w _ _ _
  have hGm : G ≤ maxLen := by rw [hG]; exact grownCap_le_maxLen w (n + 1) n 39 (by unfold maxLen; omega)
  obtain ⟨ROW, hROW⟩ : ∃ ROW : List Value, ROW = xs.take (i * 3) ++ ((Builtin.zeroCells ((.agg #[.int .i64 0, .slice none 0 0, .int .i64 0]) : Value).cells (n + 1 - i)).toList ++ (Builtin.zeroCells ((.agg #[.int .i64 0, .slice none 0 0, .int .i64 0]) : Value).cells (G - (n + 1))).toList) := ⟨_, rfl⟩
  have hRa : (xs.take (i * 3)).toArray ++ Builtin.zeroCells ((.agg #[.int .i64 0, .slice none 0 0, .int .i64 0]) : Value).cells (n + 1 - i) ++ Builtin.zeroCells ((.agg #[.int .i64 0, .slice none 0 0, .int .i64 0]) : Value).cells (G - (n + 1)) = ROW.toArray := by rw [hROW]; apply Array.toList_inj.1; simp
  have hRl : ROW.length = G * 3 := by
    rw [hROW]
    simp only [List.length_append, List.length_take, Array.length_toList, size_zeroCells, hxl]
    simp only [Value.cells, List.size_toArray, List.length_cons, List.length_nil]
    omega
  have hRt : ROW.take (i * 3) = xs.take (i * 3) := by
    rw [hROW, List.take_append_of_le_length (by rw [List.length_take]; omega), List.take_take, Nat.min_self]
  rw [← hG, hRa] at hrz
  have hcpA : ∀ (W : World), W.heap[w.heap.size]? = some (.cells ROW.toArray 39 (0, 0)) → W.heap[vb]? = w.heap[vb]? → ∀ ty dc, (Builtin.copy_ #[22, 22] ty #[.slice (some ⟨w.heap.size, i * 3, none⟩) (n + 1 - i) dc, .slice (some ⟨vb, 0, none⟩) 1 1]).run Try.prog W = .ok (goInt 1) (W.setRow w.heap.size (spl ROW (i * 3) ys).toArray) := fun W hW hV ty dc => by
    have hmin : Nat.min 1 (n + 1 - i) = 1 := by simp only [Nat.min_def]; split <;> omega
    have := run_copy_K (P := Try.prog) W 22 22 ty 39 w.heap.size (i * 3) (n + 1 - i) dc ⟨vb, 0, none⟩ 1 1 ROW.toArray 39 ys 3 Try.underlying22 hsz hW
      (by rw [hmin, hy]) (fun j u hu => by
        rw [Addr.add_lit, Nat.zero_add, cell_of_row W vb _ ys.toArray 39 (0, 0) (by rw [hV]; exact hb)]
        simpa using hu) (by rw [List.size_toArray, hRl, hy]; omega) h1y
    rw [hmin] at this
    rw [this]
    congr 2
    exact congrArg List.toArray (over_get (by rw [hRl, hy]; omega))
  obtain ⟨L1, hL1⟩ : ∃ L1, L1 = spl ROW (i * 3) ys := ⟨_, rfl⟩
  have hL1l : L1.length = G * 3 := by rw [hL1, length_spl _ _ _ (by rw [hRl, hy]; omega), hRl]
  rw [← hL1] at hcpA
  have hcpB : ∀ (W : World), W.heap[w.heap.size]? = some (.cells L1.toArray 39 (0, 0)) → W.heap[g]? = w.heap[g]? → ∀ ty dc sc, (Builtin.copy_ #[22, 22] ty #[.slice (some ⟨w.heap.size, (i + 1) * 3, none⟩) (n - i) dc, .slice (some ⟨g, i * 3, none⟩) (n - i) sc]).run Try.prog W = .ok (goInt ((n - i : Nat) : Int)) (W.setRow w.heap.size (spl L1 (i * 3 + 3) (xs.drop (i * 3))).toArray) := fun W hW hV ty dc sc => by
    have hmin : Nat.min (n - i) (n - i) = n - i := Nat.min_self _
    have := run_copy_K (P := Try.prog) W 22 22 ty 39 w.heap.size ((i + 1) * 3) (n - i) dc ⟨g, i * 3, none⟩ (n - i) sc L1.toArray 39 (xs.drop (i * 3)) 3 Try.underlying22 hsz hW
      (by rw [hmin, List.length_drop, hxl, Nat.sub_mul]) (fun j u hu => by
        rw [List.getElem?_drop, ← ht, List.getElem?_take] at hu
        split at hu
        · rw [Addr.add_lit, cell_of_row W g _ cur 39 (0, 0) (by rw [hV]; exact hg)]
          simpa using hu
        · cases hu) (by rw [List.length_drop, hxl, List.size_toArray, hL1l]; omega) (fun u hu => h1x u (List.mem_of_mem_drop hu))
    rw [hmin] at this
    rw [this]
    congr 2
    have e : ((i + 1) * 3) = i * 3 + 3 := by omega
    rw [e]
    exact congrArg List.toArray (over_get (by rw [List.length_drop, hxl, hL1l]; omega))
  have hlg := (Array.getElem?_eq_some_iff.1 hg).1
  have hlv := hb.lt
  have hfin : ∀ (W : World), W.heap[w.heap.size]? = some (.cells L1.toArray 39 (0, 0)) → (W.setRow w.heap.size (spl L1 (i * 3 + 3) (xs.drop (i * 3))).toArray).ownsRow base 39 3 (.slice (some ⟨w.heap.size, 0, none⟩) (n + 1) G) (n + 1) (xs.take (i * 3) ++ ys ++ xs.drop (i * 3)) := fun W hW => by
    refine ⟨by simp only [List.length_append, List.length_take, List.length_drop, hxl, hy]; omega, .inr ⟨w.heap.size, G, _, rfl, hbase, setRow_heap W w.heap.size _ _ 39 _ hW, hGn, hGm, ?_, ?_⟩⟩
    · rw [List.size_toArray, length_spl _ _ _ (by rw [List.length_drop, hxl, hL1l]; omega), hL1l]
    · rw [hL1]
      exact ins_lists2 hxl hy (by rw [hxl]; omega) (by rw [hRl]; omega) hRt
  have HF := Lib.hid hfin
  obtain ⟨W1, hW1⟩ : ∃ W1, W1 = w.drew.alloc (.cells ROW.toArray 39) := ⟨_, rfl⟩
  have hn1 : W1.heap[w.heap.size]? = some (.cells ROW.toArray 39 (0, 0)) := by rw [hW1]; exact heap_alloc_new w.drew _
  have ho1 : ∀ k, k < w.heap.size → W1.heap[k]? = w.heap[k]? := fun k hk => by rw [hW1]; exact Below.heap_alloc w.drew _ k hk
  have hgr1 : w.grownBy W1 (some g) := by rw [hW1]; exact (show w.grownBy w.drew (some g) from ⟨rfl, rfl, rfl, Nat.le_refl _, fun _ _ _ => rfl⟩).trans (World.grownBy_alloc _ _ _)
  rw [← hW1] at hrz
  have hcA := hcpA W1 hn1 (ho1 vb hlv)
  have hn2 := setRow_heap W1 w.heap.size _ L1.toArray 39 (0, 0) hn1
  have hcB := hcpB (W1.setRow w.heap.size L1.toArray).drew hn2 ((setRow_other W1 w.heap.size g _ (by omega)).trans (ho1 g hlg))
  have hgr2 : w.grownBy ((W1.setRow w.heap.size L1.toArray).drew.setRow w.heap.size (spl L1 (i * 3 + 3) (xs.drop (i * 3))).toArray) (some g) :=
    ⟨hgr1.os, hgr1.tape, hgr1.output, by simpa [World.setRow, World.drew] using hgr1.size, fun k hk hne => (setRow_other _ _ k _ (by omega)).trans ((setRow_other W1 _ k _ (by omega)).trans (ho1 k hk))⟩
  have HG := Lib.hid (And.intro (hfin (W1.setRow w.heap.size L1.toArray).drew hn2) hgr2)
  have hwr : IntKind.i64.wrap ((i : Int) + 1) = (i : Int) + 1 := by rw [IntKind.wrap_i64]; omega
  have hb1 : (0 : Int) ≤ (i : Int) + 1 := by omega
  have htn : ((i : Int) + 1).toNat = i + 1 := by omega
  have hb2 : (i : Int) ≤ (n : Int) + 1 := by omega
  have hb3 : (i : Int) + 1 ≤ (n : Int) + 1 := by omega
  have hb4 : (i : Int) ≤ (n : Int) := by omega
  have hnlt : (i : Int) < n := by omega
  have hne' : ¬ ((i : Int) = n) := by omega
  have hgi : ¬ (G = i) := by omega
  have hgi1 : ¬ (G = i + 1) := by omega
  have hni : ¬ (n = i) := by omega
  unfold maxLen at hGm
  clear hfin ho hb hy h1x h1y hg hcs ht hxl hcl hL1 hL1l hsz hbg hz0 hz1 hz2 hi0 hold hG hROW hRa hRl hRt hW1 ho1 hgr1 hgr2 hcpA hcpB hn1 hn2 hcm hlg hlv hbase HF
  have hrz := hrz
  go_enter Try.func41, Try.ntmps41
  go_wp2_with (first | (with_reducible refine wpList_append_run' rfl (.tmp 34) (.tmp 39) _ _ rfl rfl rfl (hrz _) ?_) | (with_reducible refine wpList_copy_R rfl (.tmp 43) (.tmp 44) _ _ rfl rfl rfl (hcA _ _) ?_))
  refine rp_enter [] (fun _ => True) (by kernel_rfl) ?_
  apply rp_pure 0 rfl (by kernel_rfl) (fun _ _ _ h => h) rfl
  · (intro W; go_simp; try rfl)
  · (go_simp; try rfl)
  apply rp_pure 1 rfl (by kernel_rfl) (fun _ _ _ h => h) rfl
  · (intro W; go_simp; try rfl)
  · (go_simp; try rfl)
  apply rp_pure 2 rfl (by kernel_rfl) (fun _ _ _ h => h) rfl
  · (intro W; go_simp; try rfl)
  · (go_simp; try rfl)
  apply rp_pure 3 rfl (by kernel_rfl) (fun _ _ _ h => h) rfl
  · (intro W; go_simp; try rfl)
  · (go_simp; try rfl)
  apply rp_pure 4 rfl (by kernel_rfl) (fun _ _ _ h => h) rfl
  · (intro W; go_simp; try rfl)
  · (go_simp; try rfl)
  apply rp_pure 5 rfl (by kernel_rfl) (fun _ _ _ h => h) rfl
  · (intro W; go_simp; try rfl)
  · (go_simp; try rfl)
  apply rp_pure 6 rfl (by kernel_rfl) (fun _ _ _ h => h) rfl
  · (intro W; go_simp; try rfl)
  · (go_simp; try rfl)
  apply rp_pure 7 rfl (by kernel_rfl) (fun _ _ _ h => h) rfl
  · (intro W; go_simp; try rfl)
  · (go_simp; try rfl)
  refine rp_only 8 (by kernel_rfl) rfl (fun K hK => ?_)
  refine step_copy_R rfl _ _ 22 22 rfl (by rfl) (by rfl) (hcB _ _ _) ?_
  refine hK _ _ ⟨fun _ _ => trivial, ?_⟩; clear hK K
  refine rp_done (by kernel_rfl) ?_
  go_wp2
  go_ret
  exact ⟨_, rfl, HG.out.1, HG.out.2, rfl⟩

/-- slices.Insert of one element. -/
theorem insL_any (v : Value) (n i : Nat) (xs ys : List Value) (vb base : Nat) (w : World) (ho : w.ownsRow base 39 3 v n xs) (hb : Blk w vb 39 ys.toArray) (hy : ys.length = 3)
    (h1x : ∀ u ∈ xs, u.oneCell' = true) (h1y : ∀ u ∈ ys, u.oneCell' = true) (hne : v.ownBlock ≠ some vb) (hi : i ≤ n) (hn : n ≤ 1000000) (hbase : base ≤ w.heap.size) :
    Calls Try.prog 41 #[v, .int .i64 i, .slice (some ⟨vb, 0, none⟩) 1 1] w fun e w' => ∃ v', e = .returned v' ∧ w'.ownsRow base 39 3 v' (n + 1) (xs.take (i * 3) ++ ys ++ xs.drop (i * 3)) ∧ w.grownBy w' v.ownBlock ∧
      (v'.ownBlock = v.ownBlock ∨ v'.ownBlock = some w.heap.size) := by
  by_cases hin : i = n
  · subst hin
    refine (insL_end v i xs ys vb base w ho hb hy h1y hn hbase).mono ?_
    rintro e w' ⟨v', h1, h2, h3, h4⟩
    refine ⟨v', h1, ?_, h3, h4⟩
    rw [List.take_of_length_le (by rw [ho.1]; exact Nat.le_refl _), List.drop_eq_nil_of_le (by rw [ho.1]; exact Nat.le_refl _), List.append_nil]
    exact h2
  · rcases id ho.2 with ⟨rfl, rfl⟩ | ⟨g, c, cur, rfl, hbg, hg, hnc, hcm, hcs, ht⟩
    · omega
    · by_cases hc : n + 1 ≤ c
      · exact (insL_shift g c n i xs ys vb base w ho hb hy h1x h1y (fun e => hne (by rw [e]; rfl)) (by omega) hc hn).mono fun e w' ⟨v', h1, h2, h3, h4⟩ => ⟨v', h1, h2, h3, .inl h4⟩
      · obtain rfl : c = n := by omega
        exact (insL_grow g c i xs ys vb base w ho hb hy h1x h1y (by omega) hn hbase).mono fun e w' ⟨v', h1, h2, h3, h4⟩ => ⟨v', h1, h2, h3, .inr h4⟩
end Go.Proofs.Ytombdkdidnoomaa
