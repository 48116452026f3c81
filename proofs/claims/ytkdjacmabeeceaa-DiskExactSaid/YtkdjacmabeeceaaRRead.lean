/-
The reference's disk: Read, Write.
-/
import Derived.Test.YtkdjacmabeeceaaRFlush
import Derived.Test.YtkdjacmabeeceaaReads0
namespace Go.Proofs.Ytkdjacmabeeceaa
open Go.RowKit
attribute [local go_sem ↓] Go.wp_at_zero Go.wp_at_succ

theorem lastW_take_succ {l : List Wri} {k a : Nat} (h : k < l.length) : lastW (l.take (k + 1)) a = if l[k].addr = (a : Int) then some l[k].bytes else lastW (l.take k) a := by
  rw [List.take_add_one, List.getElem?_eq_getElem h]
  exact lastW_snoc _ _ _

theorem gst_grown (w : World) (nb : Nat) (v0 v1 : Value) : w.grownBy ((w.setCell ⟨nb, 0, none⟩ v0).setCell ⟨nb, 1, none⟩ v1) (some nb) := grownBy_trans (grownBy_set _ _ _ _) (grownBy_set _ _ _ _)
theorem SlR.gst {w w' : World} {M : Ms} {nb : Nat} {v : Value} {l : List UInt8} (h : SlR w (M.and nb) v l) (hg : w.grownBy w' (some nb)) : SlR w' M v l :=
  h.mono fun b hb hm => ⟨fun h => hm (.inl h), hg.block b hb (fun e => hm (.inr (by injection e)))⟩
set_option maxRecDepth 100000 in
set_option maxHeartbeats 4000000 in
theorem rread_any (w : World) (M : Ms) (base bd : Nat) (vc vk : Value) (d : Dis) (a : Nat) (h : RfR w M base bd vc vk d) (hbase : base ≤ w.heap.size) (hM : MOk w M) (hO : OkD d) (ha : a < d.cells.length) :
    Calls Try.prog 27 #[.pointer (some ⟨bd, 0, none⟩), .int .i64 a] w fun e w' => ∃ s, e = .returned (.agg #[.int .i64 (readV d a).2, s]) ∧ SlR w' M s (readV d a).1 ∧ RfR w' M base bd vc vk (readD d) ∧ Below base w w' := by
  have HO := Lib.hid hO
  have hB0 := Lib.hid ((Below.refl w.heap.size w).alloc (Nat.le_refl _) (.cells #[.int .i64 0, .slice none 0 0] 61))
  have hx0 := Lib.hid (Blk.new w 61 #[.int .i64 0, .slice none 0 0])
  have H0 := Lib.hid (h.boxed (.cells #[.int .i64 0, .slice none 0 0] 61))
  have hM0 := Lib.hid (MOk.boxed hM hB0.out.size hx0.out.lt)
  have hbs := Lib.hid (Nat.le_trans hbase hB0.out.size)
  have n1 := Lib.hid (Nat.ne_of_lt h.blk.lt)
  have n2 := Lib.hid (show vc.ownBlock ≠ some w.heap.size from fun e => by have := h.cells.own_lt e; omega)
  have n3 := Lib.hid (show vk.ownBlock ≠ some w.heap.size from fun e => by have := h.cache.own_lt e; omega)
  have hbn := Lib.hid hbase
  by_cases hl : d.left = 0
  · have hq := Lib.hid (rreq_dead _ _ base bd vc vk d H0.out hl)
    have hw : readV d a = ([], 8) := by simp [readV, hl]
    have hw2 : readD d = d := by simp [readD, hl]
    rw [hw, hw2]
    have HH := Lib.hid h
    have hB1 := Lib.hid ((Below.refl base w).alloc hbase (.cells #[.int .i64 8, .slice none 0 0] 61))
    have hB2 := Lib.hid ((Below.refl w.heap.size w).alloc (Nat.le_refl _) (.cells #[.int .i64 8, .slice none 0 0] 61))
    clear h hl hw hw2 hO hM
    go_enter Try.func27, Try.ntmps27
    go_wp2_with fail
    refine hq.out.mono ?_
    rintro e w1 ⟨rfl, rfl⟩
    go_wp2
    refine bodyPost_ret (v := .agg #[.int .i64 8, .slice none 0 0]) (by simp [results, Try.results27, go_sem]) rfl ?_
    exact ⟨_, rfl, sl_nil _ _ _ (Nat.zero_le _), (HH.out.belowd hB2.out hbn.out).drv, hB1.out⟩
  have hr := HO.out.1.2.2.2
  have hq := Lib.hid (rreq_any _ _ base bd vc vk d H0.out hbs.out hl hr.1 hr.2.1 hr.2.2.1 hr.2.2.2)
  have hw2 := Lib.hid (show readD d = reqD d by rw [readD, if_neg hl])
  have hkl : d.cache.length ≤ 2000 := HO.out.1.2.2.1
  have hwl := Lib.hid hl
  have ha' : (a : Int) < d.cells.length := by omega
  obtain ⟨ac, cc, hvc⟩ := h.cells.form
  obtain ⟨ak, ck, hvk⟩ := h.cache.form
  subst hvc
  subst hvk
  clear h hl hr hO hM
  go_enter Try.func27, Try.ntmps27
  go_wp2_with fail
  refine hq.out.mono ?_
  rintro e w1 ⟨rfl, hs1, hg1⟩
  have X1 := Lib.hid (hx0.out.grown hg1 (by simpa using n1.out.symm))
  have H1 := Lib.hid hs1.drv
  have B1 := Lib.hid (((Below.refl base w).alloc hbase (.cells #[.int .i64 0, .slice none 0 0] 61)).trans hs1.below)
  have hM1 := Lib.hid (hM0.out.below hs1.below.size)
  have hsz := Lib.hid (show w.heap.size ≤ w1.heap.size from Nat.le_of_lt X1.out.lt)
  clear hs1 hg1 hq H0 hx0 hB0 hM0 hbs hbase
  obtain ⟨c1, -, l1⟩ := H1.out.blk.all
  have c1' : ∀ i, w1.cell? ⟨bd, i, none⟩ = #[Value.slice ac d.cells.length cc, .slice ak d.cache.length ck, .int .i64 (reqD d).reqs, .int .i64 (reqD d).left][i]? := c1
  clear c1
  go_wp2_with fail
  go_loopw [5] (fun i wr => wr = w1 ∧ ∃ k : Nat, k ≤ d.cache.length ∧ i = .int .i64 ((k : Int) - 1) ∧ Hid (lastW d.cache a = lastW (d.cache.take k) a)) (fun i _ => (intOf i + 1).toNat)
  case atStart => exact ⟨rfl, d.cache.length, Nat.le_refl _, rfl, Lib.hid (by rw [List.take_length])⟩
  case round =>
    obtain ⟨rfl, k, hk, rfl, hL⟩ := hrel
    cases k with
    | zero =>
      have hi : ((0 : Nat) : Int) - 1 = -1 := by omega
      rw [hi]
      obtain ⟨g, cg, vb, vo, hv, -, -, y0, y1, -, z1, -⟩ := celO_at H1.out.cells ha
      have hv : Value.slice ac d.cells.length cc = .slice (some ⟨g, 0, none⟩) d.cells.length cg := hv
      simp only [Value.slice.injEq, true_and] at hv
      obtain ⟨rfl, rfl⟩ := hv
      have y0' : wr.cell? ⟨g, a * 3, none⟩ = some (.int .i64 d.cells[a].state) := y0
      obtain ⟨ab, cb, rfl⟩ := SlR.form z1
      have y1' : wr.cell? ⟨g, a * 3 + 1, none⟩ = some (.slice ab d.cells[a].bytes.length cb) := y1
      have hL0 : lastW d.cache a = none := by rw [hL.out]; rfl
      by_cases hst : d.cells[a].state = 0
      · have hV := Lib.hid (show readV d a = (d.cells[a].bytes, 0) by unfold readV; rw [if_neg hwl.out, hL0]; simp only [List.getElem?_eq_getElem ha]; rw [if_pos hst])
        have hst' : (d.cells[a].state != 0) = false := by simp [hst]
        have Z := Lib.hid (show SlR wr (M.and w.heap.size) (.slice ab d.cells[a].bytes.length cb) d.cells[a].bytes from z1.mono (Keep.less fun b hb => .inl (.inl hb)))
        have hbl := Lib.hid (HO.out.2.1 d.cells[a] (List.getElem_mem ha)).2.2.1
        clear hst hL0 y0 y1 z1
        go_wp2_with fail
        clear y0' y1' hst' c1' l1
        refine (twin_any _ d.cells[a].bytes wr (M.and w.heap.size) (rv_list.2 Z.out) hM1.out (Nat.le_trans hbl.out (by omega))).mono ?_
        rintro q w2 ⟨r2, rfl, hr2, hB2⟩
        have V2 := Lib.hid (rv_list.1 hr2)
        obtain ⟨A2, C2, rfl⟩ := V2.out.form
        have H2 := Lib.hid (H1.out.belowd hB2 (Nat.le_trans hbn.out hsz.out)).drv
        have X2 := Lib.hid (X1.out.below hB2)
        have B2 := Lib.hid (B1.out.trans (hB2.mono (Nat.le_trans hbn.out hsz.out)))
        clear hr2 hB2
        obtain ⟨x1, x2, x3⟩ := X2.out.all
        go_wp2
        have hG := gst_grown w2 w.heap.size (.int .i64 0) (.slice A2 d.cells[a].bytes.length C2)
        have hx := ((X2.out.set_ 0 (.int .i64 0)).set_ 1 (.slice A2 d.cells[a].bytes.length C2)).cell
        refine bodyPost_ret (v := .agg #[.int .i64 0, .slice A2 d.cells[a].bytes.length C2]) (by simp [results, Try.results27, go_sem, hx]) rfl ?_
        rw [hV.out, hw2.out]
        exact ⟨_, rfl, V2.out.gst hG, H2.out.unbox hG n1.out n2.out n3.out, (B2.out.setCell (p := ⟨w.heap.size, 0, none⟩) hbn.out _).setCell (p := ⟨w.heap.size, 1, none⟩) hbn.out _⟩
      · have hV := Lib.hid (show readV d a = ([], 6) by unfold readV; rw [if_neg hwl.out, hL0]; simp only [List.getElem?_eq_getElem ha]; rw [if_neg hst])
        have hst' : (d.cells[a].state != 0) = true := by simpa using hst
        clear hst hL0 y0 y1 z1
        obtain ⟨x1, x2, x3⟩ := X1.out.all
        go_wp2
        have hG := gst_grown wr w.heap.size (.int .i64 6) (.slice none 0 0)
        have hx := ((X1.out.set_ 0 (.int .i64 6)).set_ 1 (.slice none 0 0)).cell
        refine bodyPost_ret (v := .agg #[.int .i64 6, .slice none 0 0]) (by simp [results, Try.results27, go_sem, hx]) rfl ?_
        rw [hV.out, hw2.out]
        exact ⟨_, rfl, sl_nil _ _ _ (Nat.zero_le _), H1.out.unbox hG n1.out n2.out n3.out, (B1.out.setCell (p := ⟨w.heap.size, 0, none⟩) hbn.out _).setCell (p := ⟨w.heap.size, 1, none⟩) hbn.out _⟩
    | succ k =>
      have hi : ((k + 1 : Nat) : Int) - 1 = k := by omega
      rw [hi]
      have hlt : k < d.cache.length := hk
      obtain ⟨g, cg, vb, hv, -, y0, y1, z1⟩ := wriO_at H1.out.cache hlt
      have hv : Value.slice ak d.cache.length ck = .slice (some ⟨g, 0, none⟩) d.cache.length cg := hv
      simp only [Value.slice.injEq, true_and] at hv
      obtain ⟨rfl, rfl⟩ := hv
      have y0' : wr.cell? ⟨g, k * 2, none⟩ = some (.int .i64 d.cache[k].addr) := y0
      obtain ⟨ab, cb, rfl⟩ := SlR.form z1
      have y1' : wr.cell? ⟨g, k * 2 + 1, none⟩ = some (.slice ab d.cache[k].bytes.length cb) := y1
      have hlt' : (k : Int) < d.cache.length := by omega
      by_cases had : d.cache[k].addr = (a : Int)
      · have hV := Lib.hid (show readV d a = (d.cache[k].bytes, 0) by unfold readV; rw [if_neg hwl.out, hL.out, lastW_take_succ hlt, if_pos had])
        have had' : (d.cache[k].addr == (a : Int)) = true := by simp [had]
        have Z := Lib.hid (show SlR wr (M.and w.heap.size) (.slice ab d.cache[k].bytes.length cb) d.cache[k].bytes from z1.mono (Keep.less fun b hb => .inl (.inl hb)))
        have hbl := Lib.hid (HO.out.2.2 d.cache[k] (List.getElem_mem hlt)).2.2
        clear had y0 y1 z1
        go_wp2_with fail
        clear y0' y1' had' c1' l1
        refine (twin_any _ d.cache[k].bytes wr (M.and w.heap.size) (rv_list.2 Z.out) hM1.out (Nat.le_trans hbl.out (by omega))).mono ?_
        rintro q w2 ⟨r2, rfl, hr2, hB2⟩
        have V2 := Lib.hid (rv_list.1 hr2)
        obtain ⟨A2, C2, rfl⟩ := V2.out.form
        have H2 := Lib.hid (H1.out.belowd hB2 (Nat.le_trans hbn.out hsz.out)).drv
        have X2 := Lib.hid (X1.out.below hB2)
        have B2 := Lib.hid (B1.out.trans (hB2.mono (Nat.le_trans hbn.out hsz.out)))
        clear hr2 hB2
        obtain ⟨x1, x2, x3⟩ := X2.out.all
        go_wp2
        have hG := gst_grown w2 w.heap.size (.int .i64 0) (.slice A2 d.cache[k].bytes.length C2)
        have hx := ((X2.out.set_ 0 (.int .i64 0)).set_ 1 (.slice A2 d.cache[k].bytes.length C2)).cell
        refine bodyPost_ret (v := .agg #[.int .i64 0, .slice A2 d.cache[k].bytes.length C2]) (by simp [results, Try.results27, go_sem, hx]) rfl ?_
        rw [hV.out, hw2.out]
        exact ⟨_, rfl, V2.out.gst hG, H2.out.unbox hG n1.out n2.out n3.out, (B2.out.setCell (p := ⟨w.heap.size, 0, none⟩) hbn.out _).setCell (p := ⟨w.heap.size, 1, none⟩) hbn.out _⟩
      · have had' : (d.cache[k].addr == (a : Int)) = false := by simpa using had
        have hL2 := Lib.hid (show lastW d.cache a = lastW (d.cache.take k) a by rw [hL.out, lastW_take_succ hlt, if_neg had])
        clear had y0 y1 z1
        go_wp2
        go_roundw
        case rel => exact ⟨trivial, k, by omega, by go_num, hL2⟩
        case measure => simp [intOf]
end Go.Proofs.Ytkdjacmabeeceaa
