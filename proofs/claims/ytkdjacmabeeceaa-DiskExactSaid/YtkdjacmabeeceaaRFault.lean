/-
The reference's disk: Fault.
-/
import Derived.Test.YtkdjacmabeeceaaRFlush
import Derived.Test.YtkdjacmabeeceaaRFlip
import Derived.Test.YtkdjacmabeeceaaFault
namespace Go.Proofs.Ytkdjacmabeeceaa
open Go.RowKit
attribute [local go_sem ↓] Go.wp_at_zero Go.wp_at_succ

def rfaultT (d : Dis) (kind a fr bit bs : Int) : Dis × Int :=
  if inB a 0 (d.cells.length - 1) then
    if d.cache.length = 0 then
      match d.cells[a.toNat]? with
      | some c => match cellF d c kind fr bit bs with
        | some c' => ({ d with cells := d.cells.set a.toNat c' }, 0)
        | none => (d, 1)
      | none => (d, 1)
    else (d, 9)
  else (d, 1)
theorem RfR.state {w : World} {M : Ms} {base bd g c n j : Nat} {vk : Value} {d : Dis} (h : RfR w M base bd (.slice (some ⟨g, 0, none⟩) n c) vk d) (hbase : base ≤ w.heap.size) (hj : j < d.cells.length) (x : Int) :
    RStep w M base bd (.slice (some ⟨g, 0, none⟩) n c) vk (w.setCell ⟨g, j * 3, none⟩ (.int .i64 x)) (.slice (some ⟨g, 0, none⟩) n c) vk { d with cells := d.cells.set j ⟨x, d.cells[j].bytes, d.cells[j].old⟩ } :=
  h.field hbase hj (f := 0) (by omega) (.int .i64 x) ⟨x, d.cells[j].bytes, d.cells[j].old⟩ (fun cs hcs => by obtain ⟨b', o', rfl, q1, q2⟩ := hcs; exact ⟨_, _, rfl, q1, q2⟩)
theorem RfR.bytes {w : World} {M : Ms} {base bd g c n j : Nat} {vk u : Value} {d : Dis} {b : List UInt8} (h : RfR w M base bd (.slice (some ⟨g, 0, none⟩) n c) vk d) (hbase : base ≤ w.heap.size) (hj : j < d.cells.length) (hu : SlR w (DA M bd (.slice (some ⟨g, 0, none⟩) n c) vk) u b) :
    RStep w M base bd (.slice (some ⟨g, 0, none⟩) n c) vk (w.setCell ⟨g, j * 3 + 1, none⟩ u) (.slice (some ⟨g, 0, none⟩) n c) vk { d with cells := d.cells.set j ⟨d.cells[j].state, b, d.cells[j].old⟩ } :=
  h.field hbase hj (f := 1) (by omega) u ⟨d.cells[j].state, b, d.cells[j].old⟩ (fun cs hcs => by obtain ⟨b', o', rfl, q1, q2⟩ := hcs; exact ⟨_, _, rfl, hu, q2⟩)

set_option maxRecDepth 100000 in
set_option maxHeartbeats 16000000 in
theorem rfault_any (w : World) (M : Ms) (base bd : Nat) (vc vk : Value) (d : Dis) (kind a fr bit bs : Int) (h : RfR w M base bd vc vk d) (hbase : base ≤ w.heap.size) (hM : MOk w M) (hO : OkD d) :
    Calls Try.prog 31 #[.pointer (some ⟨bd, 0, none⟩), .int .i64 kind, .int .i64 a, .int .i64 fr, .int .i64 bit, .int .i64 bs] w fun e w' => e = .returned (.int .i64 (rfaultT d kind a fr bit bs).2) ∧ RStep w M base bd vc vk w' vc vk (rfaultT d kind a fr bit bs).1 := by
  obtain ⟨ak, ck, rfl⟩ := h.cache.form
  obtain ⟨ac, cc, rfl⟩ := h.cells.form
  have H := Lib.hid h
  have HO := Lib.hid hO
  have hM' := Lib.hid hM
  have hbs := Lib.hid hbase
  obtain ⟨d1, d2, d3⟩ := h.blk.all
  have hl1 : 1 ≤ d.cells.length := hO.1.1
  have hl2 : d.cells.length ≤ 300 := hO.1.2.1
  have hin := Lib.hid (fun w => rin_any a 0 (d.cells.length - 1) w)
  clear hO hM hbase
  go_enter Try.func31, Try.ntmps31
  cases hA : inB a 0 (d.cells.length - 1)
  · have hR1 := Lib.hid (show rfaultT d kind a fr bit bs = (d, 1) by simp [rfaultT, hA])
    rw [hA] at hin
    clear hA h
    go_wp2_with fail
    refine (hin.out _).mono ?_
    rintro q w' ⟨rfl, rfl⟩
    go_wp2
    go_ret
    rw [hR1.out]
    exact ⟨rfl, H.out.same⟩
  rw [hA] at hin
  by_cases hch : d.cache.length = 0
  case neg =>
    have hR1 := Lib.hid (show rfaultT d kind a fr bit bs = (d, 9) by simp only [rfaultT, hA, if_true]; rw [if_neg hch])
    have hcp : 0 < d.cache.length := by omega
    have hcp' : (0 : Int) < d.cache.length := by omega
    clear hA hch h
    go_wp2_with fail
    refine (hin.out _).mono ?_
    rintro q w' ⟨rfl, rfl⟩
    go_wp2
    go_ret
    rw [hR1.out]
    exact ⟨rfl, H.out.same⟩
  have hcn : ¬ 0 < d.cache.length := by omega
  have hcn' : ¬ (0 : Int) < d.cache.length := by omega
  have hai : 0 ≤ a ∧ a < d.cells.length := by simp only [inB, Bool.and_eq_true, decide_eq_true_eq] at hA; omega
  obtain ⟨j, rfl⟩ := Int.eq_ofNat_of_zero_le hai.1
  have hj : j < d.cells.length := by omega
  have hR := Lib.hid (show rfaultT d kind j fr bit bs = match cellF d d.cells[j] kind fr bit bs with
        | some c' => ({ d with cells := d.cells.set j c' }, 0)
        | none => (d, 1) by simp only [rfaultT, hA, if_true]; rw [if_pos hch, Int.toNat_natCast, List.getElem?_eq_getElem hj])
  replace hch := Lib.hid hch
  have hj' : (j : Int) < d.cells.length := by omega
  clear hA hai
  obtain ⟨g, cg, vb, vo, hv, -, hf, y0, y1, y2, z1, z2⟩ := celO_at h.cells hj
  simp only [Value.slice.injEq, true_and] at hv
  obtain ⟨rfl, rfl⟩ := hv
  obtain ⟨ab, cb, rfl⟩ := z1.form
  obtain ⟨ao, co, rfl⟩ := z2.form
  have hlg : g < w.heap.size := h.cells.own_lt rfl
  have Z1 := Lib.hid (z1.mono (Keep.less (fun x hx => DA.of (vk := .slice ak d.cache.length ck) (M := M) (bd := bd) hx)))
  have Z2 := Lib.hid (z2.mono (Keep.less (fun x hx => DA.of (vk := .slice ak d.cache.length ck) (M := M) (bd := bd) hx)))
  clear z1 z2 h
  go_wp2_with fail
  refine (hin.out _).mono ?_
  rintro q w' ⟨rfl, rfl⟩
  by_cases k1 : kind = 11
  · subst k1
    by_cases hs : d.cells[j].state = 0
    · have F1 := Lib.hid (H.out.state hbs.out hj 1)
      have hR1 := Lib.hid (show rfaultT d 11 j fr bit bs = ({ d with cells := d.cells.set j ⟨1, d.cells[j].bytes, d.cells[j].old⟩ }, 0) by rw [hR.out]; simp [cellF, hs])
      have hs' : (d.cells[j].state == 0) = true := by simp [hs]
      clear hs
      go_wp2
      go_ret
      rw [hR1.out]
      exact ⟨rfl, F1.out⟩
    · have F1 := Lib.hid H.out.same
      have hR1 := Lib.hid (show rfaultT d 11 j fr bit bs = (d, 0) by rw [hR.out]; simp [cellF, hs])
      have hs' : (d.cells[j].state == 0) = false := by simpa using hs
      clear hs
      go_wp2
      go_ret
      rw [hR1.out]
      exact ⟨rfl, F1.out⟩
  have q1 : (kind == 11) = false := by simpa using k1
  by_cases k2 : kind = 12
  · subst k2
    have F1 := Lib.hid (H.out.state hbs.out hj 2)
    have hR1 := Lib.hid (show rfaultT d 12 j fr bit bs = ({ d with cells := d.cells.set j ⟨2, d.cells[j].bytes, d.cells[j].old⟩ }, 0) by rw [hR.out]; rfl)
    go_wp2
    go_ret
    rw [hR1.out]
    exact ⟨rfl, F1.out⟩
  have q2 : (kind == 12) = false := by simpa using k2
  by_cases k3 : kind = 13
  · subst k3
    by_cases hb1 : bit < 0
    · have hR1 := Lib.hid (show rfaultT d 13 j fr bit bs = (d, 1) by rw [hR.out]; simp [cellF, hb1])
      go_wp2
      go_ret
      rw [hR1.out]
      exact ⟨rfl, H.out.same⟩
    by_cases hb2 : bs < 0
    · have hR1 := Lib.hid (show rfaultT d 13 j fr bit bs = (d, 1) by rw [hR.out]; simp [cellF, hb2])
      go_wp2
      go_ret
      rw [hR1.out]
      exact ⟨rfl, H.out.same⟩
    have hR1 := Lib.hid (show rfaultT d 13 j fr bit bs = ({ d with cells := d.cells.set j ⟨d.cells[j].state, flipS d.cells[j].bytes bit bs, d.cells[j].old⟩ }, 0) by rw [hR.out]; simp [cellF, hb1, hb2])
    have hbl := Lib.hid (HO.out.2.1 _ (List.getElem_mem hj)).2.2.1
    go_wp2_with fail
    refine (rflip_any _ d.cells[j].bytes bit bs w _ _ Z1.out (H.out.mok hM'.out) (Nat.le_trans hbl.out (by omega))).mono ?_
    rintro q w4 ⟨r4, rfl, hr4, hB4⟩
    clear d1 d2 d3 hf y0 y1 y2 hlg
    have s4 := H.out.belowd hB4 hbs.out
    obtain ⟨Ar, Cr, rfl⟩ := SlR.form hr4
    have F1 := Lib.hid (s4.trans (s4.drv.bytes (Nat.le_trans hbs.out s4.below.size) hj hr4))
    obtain ⟨g', cg, vb, vo, hv, -, hf, y0, y1, y2, -, -⟩ := celO_at s4.drv.cells hj
    simp only [Value.slice.injEq, Option.some.injEq, Addr.mk.injEq, and_true, true_and] at hv
    obtain ⟨rfl, rfl⟩ := hv
    clear hr4 hB4 s4
    go_wp2
    go_ret
    rw [hR1.out]
    exact ⟨rfl, F1.out⟩
  have q3 : (kind == 13) = false := by simpa using k3
  by_cases k4 : kind = 14
  · subst k4
    have hR1 := Lib.hid (show rfaultT d 14 j fr bit bs = ({ d with cells := d.cells.set j ⟨d.cells[j].state, d.cells[j].old, d.cells[j].old⟩ }, 0) by rw [hR.out]; simp [cellF])
    have hbl := Lib.hid (HO.out.2.1 _ (List.getElem_mem hj)).2.2.2
    go_wp2_with fail
    refine (twin_any _ d.cells[j].old w _ (rv_list.2 Z2.out) (H.out.mok hM'.out) (Nat.le_trans hbl.out (by omega))).mono ?_
    rintro q w4 ⟨r4, rfl, hr4, hB4⟩
    replace hr4 := rv_list.1 hr4
    clear d1 d2 d3 hf y0 y1 y2 hlg
    have s4 := H.out.belowd hB4 hbs.out
    obtain ⟨Ar, Cr, rfl⟩ := SlR.form hr4
    have F1 := Lib.hid (s4.trans (s4.drv.bytes (Nat.le_trans hbs.out s4.below.size) hj hr4))
    obtain ⟨g', cg, vb, vo, hv, -, hf, y0, y1, y2, -, -⟩ := celO_at s4.drv.cells hj
    simp only [Value.slice.injEq, Option.some.injEq, Addr.mk.injEq, and_true, true_and] at hv
    obtain ⟨rfl, rfl⟩ := hv
    clear hr4 hB4 s4
    go_wp2
    go_ret
    rw [hR1.out]
    exact ⟨rfl, F1.out⟩
  have q4 : (kind == 14) = false := by simpa using k4
  by_cases k5 : kind = 15
  · subst k5
    have hin2 := Lib.hid (fun w => rin_any fr 0 (d.cells.length - 1) w)
    cases hA : inB fr 0 (d.cells.length - 1)
    · have hR1 := Lib.hid (show rfaultT d 15 j fr bit bs = (d, 1) by rw [hR.out]; simp [cellF, hA])
      rw [hA] at hin2
      clear hA
      go_wp2_with fail
      refine (hin2.out _).mono ?_
      rintro q w' ⟨rfl, rfl⟩
      go_wp2
      go_ret
      rw [hR1.out]
      exact ⟨rfl, H.out.same⟩
    rw [hA] at hin2
    have hfi : 0 ≤ fr ∧ fr < d.cells.length := by simp only [inB, Bool.and_eq_true, decide_eq_true_eq] at hA; omega
    obtain ⟨i, rfl⟩ := Int.eq_ofNat_of_zero_le hfi.1
    have hi : i < d.cells.length := by omega
    have hi' : (i : Int) < d.cells.length := by omega
    have hR1 := Lib.hid (show rfaultT d 15 j i bit bs = ({ d with cells := d.cells.set j ⟨d.cells[j].state, d.cells[i].bytes, d.cells[j].old⟩ }, 0) by rw [hR.out, show cellF d d.cells[j] 15 i bit bs = some ⟨d.cells[j].state, d.cells[i].bytes, d.cells[j].old⟩ by unfold cellF; rw [if_neg (by decide), if_neg (by decide), if_neg (by decide), if_neg (by decide), if_pos rfl, if_pos hA, Int.toNat_natCast, List.getElem?_eq_getElem hi]; rfl])
    obtain ⟨g', cg, vb, vo, hv, -, -, -, y5, -, z5, -⟩ := celO_at H.out.cells hi
    simp only [Value.slice.injEq, Option.some.injEq, Addr.mk.injEq, and_true, true_and] at hv
    obtain ⟨rfl, rfl⟩ := hv
    obtain ⟨a5, c5, rfl⟩ := z5.form
    have Z5 := Lib.hid (z5.mono (Keep.less (fun x hx => DA.of (vk := .slice ak d.cache.length ck) (M := M) (bd := bd) hx)))
    have hbl := Lib.hid (HO.out.2.1 _ (List.getElem_mem hi)).2.2.1
    clear z5 hA hfi
    go_wp2_with fail
    refine (hin2.out _).mono ?_
    rintro q w4 ⟨rfl, rfl⟩
    go_wp2_with fail
    clear y5
    refine (twin_any _ d.cells[i].bytes w _ (rv_list.2 Z5.out) (H.out.mok hM'.out) (Nat.le_trans hbl.out (by omega))).mono ?_
    rintro q w4 ⟨r4, rfl, hr4, hB4⟩
    replace hr4 := rv_list.1 hr4
    clear d1 d2 d3 hf y0 y1 y2 hlg
    have s4 := H.out.belowd hB4 hbs.out
    obtain ⟨Ar, Cr, rfl⟩ := SlR.form hr4
    have F1 := Lib.hid (s4.trans (s4.drv.bytes (Nat.le_trans hbs.out s4.below.size) hj hr4))
    obtain ⟨g', cg, vb, vo, hv, -, hf, y0, y1, y2, -, -⟩ := celO_at s4.drv.cells hj
    simp only [Value.slice.injEq, Option.some.injEq, Addr.mk.injEq, and_true, true_and] at hv
    obtain ⟨rfl, rfl⟩ := hv
    clear hr4 hB4 s4
    go_wp2
    go_ret
    rw [hR1.out]
    exact ⟨rfl, F1.out⟩
  have q5 : (kind == 15) = false := by simpa using k5
  have hR1 := Lib.hid (show rfaultT d kind j fr bit bs = (d, 1) by rw [hR.out]; simp [cellF, k1, k2, k3, k4, k5])
  go_wp2
  go_ret
  rw [hR1.out]
  exact ⟨rfl, H.out.same⟩
end Go.Proofs.Ytkdjacmabeeceaa
