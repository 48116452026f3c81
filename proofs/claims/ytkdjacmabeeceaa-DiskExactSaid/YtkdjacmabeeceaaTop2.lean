/-
The contracts of package disk's functions Flush, Read.
-/
import Derived.Test.YtkdjacmabeeceaaTop
namespace Go.Proofs.Ytkdjacmabeeceaa
open Go.RowKit
attribute [local go_sem ↓] Go.wp_at_zero Go.wp_at_succ

def flushT (d : Dis) : Dis × Int := if disB d then flushD d else (noD, 1)
set_option maxHeartbeats 4000000 in
theorem tflush_any (v : Value) (d : Dis) (w : World) (M : Ms) (h : Rv w M v d) (hM : MOk w M) (hl : d.cells.length ≤ 1000000000) (hkl : d.cache.length ≤ 1000000000) :
    Calls Try.prog 13 #[v] w fun e w' => ∃ r, e = .returned (.tuple #[r, .int .i64 (flushT d).2]) ∧ Rv w' M r (flushT d).1 ∧ Below w.heap.size w w' := by
  obtain ⟨c, k, rfl, hc, hk⟩ := rv_dis.1 h
  obtain ⟨ac, cc, rfl⟩ := hc.form
  obtain ⟨ak, ck, rfl⟩ := hk.form
  have P := Lib.hid (Pre.new h hM)
  clear h hc hk
  go_enter Try.func13, Try.ntmps13
  go_wp2_with fail
  generalize ((w.alloc (.cells #[.slice ac d.cells.length cc, .slice ak d.cache.length ck, .int .i64 d.reqs, .int .i64 d.left] 27)).alloc (.cells #[.slice none 0 0, .slice none 0 0, .int .i64 0, .int .i64 0] 27)) = w0 at *
  refine (check_any _ d w0 _ P.out.rv hl hkl).mono ?_
  rintro e w1 ⟨rfl, hB1⟩
  have P1 := Lib.hid (P.out.step hB1)
  clear P hB1
  have c1 := P1.out.b1.cell
  obtain ⟨c2, f2, l2⟩ := P1.out.b2.all
  cases hD : disB d
  · have hR := Lib.hid (show flushT d = (noD, 1) by simp [flushT, hD])
    rw [chkI_f hD]
    clear hD
    go_wp2
    obtain ⟨x1, x2, x3⟩ := P1.out.fin (.slice none 0 0) (.slice none 0 0) (.int .i64 0) (.int .i64 0)
    have hx := x1.cell
    unfold st4 at hx
    refine bodyPost_ret (v := .tuple #[.agg #[.slice none 0 0, .slice none 0 0, .int .i64 0, .int .i64 0], .int .i64 1]) (by simp [results, Try.results13, go_sem, hx]) rfl ?_
    rw [hR.out]
    exact ⟨_, rfl, rv_noD _ _, x3⟩
  rw [chkI_t hD]
  obtain ⟨r1, r2, r3, r4, r5, r6, r7⟩ := disB_rng hD
  have hR := Lib.hid (show flushT d = flushD d by simp [flushT, hD])
  have hD := Lib.hid hD
  clear r4
  go_wp2_with fail
  clear c1 c2 f2 l2
  refine (own_any _ d _ _ P1.out.rv (by omega) (by omega)).mono ?_
  rintro e w2 ⟨bd, vc, vk, rfl, hd2, hB2⟩
  have P2 := Lib.hid (P1.out.step hB2)
  have D2 := Lib.hid hd2
  have hB2 := Lib.hid hB2
  clear hd2
  go_wp2_with fail
  refine (flush_any w2 _ _ bd vc vk d D2.out hB2.out.size r1 r2 (by omega)).mono ?_
  rintro e w3 ⟨rfl, vk3, h3⟩
  obtain ⟨Ac, nc, rfl⟩ := h3.drv.cells.form
  obtain ⟨Ak, nk, rfl⟩ := h3.drv.cache.form
  have P3 := Lib.hid ((P1.out.res hB2.out).step h3.below P1.out.b2.lt)
  have D3 := Lib.hid h3.drv
  have hOK := Lib.hid (OkD.flush (okD_iff.1 hD.out))
  have c3 := h3.drv.blk.cell
  clear h3 hB2 D2 P2
  generalize flushD d = R at *
  obtain ⟨d3, e3⟩ := R
  go_wp2_with fail
  clear c3
  refine (dtwin_any _ d3 w3 _ (D3.out.rv P1.out.ok.new) P3.out.ok hOK.out.sm.1 hOK.out.sm.2.1 hOK.out.sm.2.2.1 hOK.out.sm.2.2.2).mono ?_
  rintro e w4 ⟨r, rfl, hr, hB4⟩
  have P4 := Lib.hid (P3.out.step hB4 (by have := P3.out.b2.lt; omega))
  obtain ⟨c4, k4, rfl, hc4, hk4⟩ := rv_dis.1 hr
  obtain ⟨Ac4, nc4, rfl⟩ := hc4.form
  obtain ⟨Ak4, nk4, rfl⟩ := hk4.form
  have Hr := Lib.hid hr
  obtain ⟨c2, f2, l2⟩ := P4.out.b2.all
  clear hc4 hk4 hr hB4
  go_wp2
  obtain ⟨x1, x2, x3⟩ := P4.out.fin (.slice Ac4 d3.cells.length nc4) (.slice Ak4 d3.cache.length nk4) (.int .i64 d3.reqs) (.int .i64 d3.left)
  have hx := x1.cell
  unfold st4 at hx
  refine bodyPost_ret (v := .tuple #[.agg #[.slice Ac4 d3.cells.length nc4, .slice Ak4 d3.cache.length nk4, .int .i64 d3.reqs, .int .i64 d3.left], .int .i64 e3]) (by simp [results, Try.results13, go_sem, hx]) rfl ?_
  rw [hR.out]
  exact ⟨_, rfl, Hr.out.mono x2, x3⟩

def readT (d : Dis) (a : Int) : Dis × List UInt8 × Int := if okT d a then (readD d, readV d a.toNat) else (noD, [], 1)
theorem sl_nil (w : World) (M : Ms) (c : Nat) (hc : c ≤ maxLen) : SlR w M (.slice none 0 c) ([] : List UInt8) := ⟨none, c, [], rfl, by simp, hc, rfl, fun h => absurd rfl h⟩
set_option maxHeartbeats 4000000 in
theorem tread_any (v : Value) (d : Dis) (a : Int) (w : World) (M : Ms) (h : Rv w M v d) (hM : MOk w M) (hl : d.cells.length ≤ 1000000000) (hkl : d.cache.length ≤ 1000000000) :
    Calls Try.prog 15 #[v, .int .i64 a] w fun e w' => ∃ r s, e = .returned (.tuple #[r, s, .int .i64 (readT d a).2.2]) ∧ Rv w' M r (readT d a).1 ∧ SlR w' M s (readT d a).2.1 ∧ Below w.heap.size w w' := by
  obtain ⟨c, k, rfl, hc, hk⟩ := rv_dis.1 h
  obtain ⟨ac, cc, rfl⟩ := hc.form
  obtain ⟨ak, ck, rfl⟩ := hk.form
  have P := Lib.hid (Pre.new h hM)
  clear h hc hk
  go_enter Try.func15, Try.ntmps15
  go_wp2_with fail
  generalize ((w.alloc (.cells #[.slice ac d.cells.length cc, .slice ak d.cache.length ck, .int .i64 d.reqs, .int .i64 d.left] 27)).alloc (.cells #[.slice none 0 0, .slice none 0 0, .int .i64 0, .int .i64 0] 27)) = w0 at *
  refine (check_any _ d w0 _ P.out.rv hl hkl).mono ?_
  rintro e w1 ⟨rfl, hB1⟩
  have P1 := Lib.hid (P.out.step hB1)
  clear P hB1
  have c1 := P1.out.b1.cell
  obtain ⟨c2, f2, l2⟩ := P1.out.b2.all
  cases hD : disB d
  · have hR := Lib.hid (show readT d a = (noD, [], 1) by simp [readT, okT, hD])
    rw [chkI_f hD]
    clear hD
    go_wp2
    obtain ⟨x1, x2, x3⟩ := P1.out.fin (.slice none 0 0) (.slice none 0 0) (.int .i64 0) (.int .i64 0)
    have hx := x1.cell
    unfold st4 at hx
    refine bodyPost_ret (v := .tuple #[.agg #[.slice none 0 0, .slice none 0 0, .int .i64 0, .int .i64 0], .slice none 0 0, .int .i64 1]) (by simp [results, Try.results15, go_sem, hx]) rfl ?_
    rw [hR.out]
    exact ⟨_, _, rfl, rv_noD _ _, sl_nil _ _ _ (Nat.zero_le _), x3⟩
  have hin := Lib.hid (in_any a 0 (d.cells.length - 1))
  rw [chkI_t hD]
  cases hA : inB a 0 (d.cells.length - 1)
  · have hR := Lib.hid (show readT d a = (noD, [], 1) by simp [readT, okT, hD, hA])
    rw [hA] at hin
    clear hD hA
    go_wp2_with (go_at_call 32; refine (hin.out _).mono ?_; rintro e w' ⟨rfl, rfl⟩)
    obtain ⟨x1, x2, x3⟩ := P1.out.fin (.slice none 0 0) (.slice none 0 0) (.int .i64 0) (.int .i64 0)
    have hx := x1.cell
    unfold st4 at hx
    refine bodyPost_ret (v := .tuple #[.agg #[.slice none 0 0, .slice none 0 0, .int .i64 0, .int .i64 0], .slice none 0 0, .int .i64 1]) (by simp [results, Try.results15, go_sem, hx]) rfl ?_
    rw [hR.out]
    exact ⟨_, _, rfl, rv_noD _ _, sl_nil _ _ _ (Nat.zero_le _), x3⟩
  rw [hA] at hin
  obtain ⟨r1, r2, r3, r4, r5, r6, r7⟩ := disB_rng hD
  have hai : 0 ≤ a ∧ a < d.cells.length := by simp only [inB, Bool.and_eq_true, decide_eq_true_eq] at hA; omega
  have hR := Lib.hid (show readT d a = (readD d, readV d a.toNat) by simp [readT, okT, hD, hA])
  obtain ⟨j, rfl⟩ := Int.eq_ofNat_of_zero_le hai.1
  have hj : j < d.cells.length := by omega
  rw [Int.toNat_natCast] at hR
  have hD := Lib.hid hD
  clear hA hai r4
  go_wp2_with fail
  refine (hin.out _).mono ?_
  rintro e w1 ⟨rfl, rfl⟩
  go_wp2_with fail
  clear c1 c2 f2 l2
  refine (own_any _ d _ _ P1.out.rv (by omega) (by omega)).mono ?_
  rintro e w2 ⟨bd, vc, vk, rfl, hd2, hB2⟩
  have P2 := Lib.hid (P1.out.step hB2)
  have D2 := Lib.hid hd2
  have hB2 := Lib.hid hB2
  clear hd2
  go_wp2_with fail
  refine (read_any w2 _ _ bd vc vk d j D2.out hB2.out.size r1 hj (by omega) P2.out.ok (fun c hc => by have := r6 c hc; omega) (fun c hc => by have := r7 c hc; omega)).mono ?_
  rintro e w3 ⟨s, rfl, hs3, h3⟩
  obtain ⟨Ac, nc, rfl⟩ := h3.drv.cells.form
  obtain ⟨Ak, nk, rfl⟩ := h3.drv.cache.form
  have P3 := Lib.hid ((P1.out.res hB2.out).step h3.below P1.out.b2.lt)
  have D3 := Lib.hid h3.drv
  have hOK := Lib.hid (OkD.read (okD_iff.1 hD.out))
  have c3 := h3.drv.blk.cell
  have Hs3 := Lib.hid (hs3.mono (M' := M.and (w.heap.size + 1)) (Keep.less (fun _ h => .inl h)))
  clear h3 hB2 D2 P2 hs3
  generalize readD d = d3 at *
  generalize readV d j = R at *
  obtain ⟨s3, e3⟩ := R
  obtain ⟨As, ns, rfl⟩ := Hs3.out.form
  go_wp2_with fail
  clear c3
  refine (dtwin_any _ d3 w3 _ (D3.out.rv P1.out.ok.new) P3.out.ok hOK.out.sm.1 hOK.out.sm.2.1 hOK.out.sm.2.2.1 hOK.out.sm.2.2.2).mono ?_
  rintro e w4 ⟨r, rfl, hr, hB4⟩
  have P4 := Lib.hid (P3.out.step hB4 (by have := P3.out.b2.lt; omega))
  obtain ⟨c4, k4, rfl, hc4, hk4⟩ := rv_dis.1 hr
  obtain ⟨Ac4, nc4, rfl⟩ := hc4.form
  obtain ⟨Ak4, nk4, rfl⟩ := hk4.form
  have Hr := Lib.hid hr
  obtain ⟨c2, f2, l2⟩ := P4.out.b2.all
  have Hs4 := Lib.hid (Hs3.out.mono (Keep.below hB4))
  clear hc4 hk4 hr hB4
  go_wp2
  obtain ⟨x1, x2, x3⟩ := P4.out.fin (.slice Ac4 d3.cells.length nc4) (.slice Ak4 d3.cache.length nk4) (.int .i64 d3.reqs) (.int .i64 d3.left)
  have hx := x1.cell
  unfold st4 at hx
  refine bodyPost_ret (v := .tuple #[.agg #[.slice Ac4 d3.cells.length nc4, .slice Ak4 d3.cache.length nk4, .int .i64 d3.reqs, .int .i64 d3.left], .slice As s3.length ns, .int .i64 e3]) (by simp [results, Try.results15, go_sem, hx]) rfl ?_
  rw [hR.out]
  exact ⟨_, _, rfl, Hr.out.mono x2, Hs4.out.mono x2, x3⟩
end Go.Proofs.Ytkdjacmabeeceaa
