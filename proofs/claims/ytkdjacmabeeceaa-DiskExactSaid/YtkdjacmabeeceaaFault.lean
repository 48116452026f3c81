/-
The contract of package disk's function Fault.
-/
import Derived.Test.YtkdjacmabeeceaaTop2
import Derived.Test.YtkdjacmabeeceaaTwin2
import Derived.Test.YtkdjacmabeeceaaFlip
namespace Go.Proofs.Ytkdjacmabeeceaa
open Go.RowKit
attribute [local go_sem ↓] Go.wp_at_zero Go.wp_at_succ

/-- What a fault makes of a cell. -/
def cellF (d : Dis) (c : Cel) (kind fr bit bs : Int) : Option Cel :=
  if kind = 11 then some (if c.state = 0 then ⟨1, c.bytes, c.old⟩ else c)
  else if kind = 12 then some ⟨2, c.bytes, c.old⟩
  else if kind = 13 then (if bit < 0 ∨ bs < 0 then none else some ⟨c.state, flipS c.bytes bit bs, c.old⟩)
  else if kind = 14 then some ⟨c.state, c.old, c.old⟩
  else if kind = 15 then (if inB fr 0 (d.cells.length - 1) then (d.cells[fr.toNat]?).map fun x => ⟨c.state, x.bytes, c.old⟩ else none)
  else none
def faultT (d : Dis) (kind a fr bit bs : Int) : Dis × Int :=
  if okT d a then
    if d.cache.length = 0 then
      match d.cells[a.toNat]? with
      | some c => match cellF d c kind fr bit bs with
        | some c' => ({ d with cells := d.cells.set a.toNat c' }, 0)
        | none => (noD, 1)
      | none => (noD, 1)
    else (noD, 9)
  else (noD, 1)

/-- What stands while a fault is laid on a copy. -/
structure FS (w : World) (M : Ms) (w1 : World) (g c n : Nat) (vk : Value) (L : List Cel) (rq lf : Int) : Prop where
  b1 : Blk w1 w.heap.size 27 #[.slice (some ⟨g, 0, none⟩) n c, vk, .int .i64 rq, .int .i64 lf]
  b2 : Blk w1 (w.heap.size + 1) 27 #[.slice none 0 0, .slice none 0 0, .int .i64 0, .int .i64 0]
  len : L.length = n
  ge : w.heap.size + 1 < g
  cells : OwR w1 ((M.and w.heap.size).and (w.heap.size + 1)) w.heap.size 47 (.slice (some ⟨g, 0, none⟩) n c) L
  ok : MOk w1 ((M.and w.heap.size).and (w.heap.size + 1))
  low : Below w.heap.size w w1
section
variable {w w1 w2 : World} {M : Ms} {g c n j f : Nat} {vk : Value} {L : List Cel} {rq lf : Int}
theorem FS.up (h : FS w M w1 g c n vk L rq lf) (hB : Below w1.heap.size w1 w2) : FS w M w2 g c n vk L rq lf :=
  ⟨h.b1.below hB, h.b2.below hB, h.len, h.ge, h.cells.below hB, h.ok.below hB.size, h.low.trans (hB.mono h.low.size)⟩
theorem FS.field (h : FS w M w1 g c n vk L rq lf) (hj : j < L.length) (hf : f < 3) (u : Value) (y : Cel)
    (hE : ∀ cs, Rp.E w1 (OM ((M.and w.heap.size).and (w.heap.size + 1)) (.slice (some ⟨g, 0, none⟩) n c)) cs L[j] → Rp.E w1 (OM ((M.and w.heap.size).and (w.heap.size + 1)) (.slice (some ⟨g, 0, none⟩) n c)) (cs.set f u) y) :
    FS w M (w1.setCell ⟨g, j * 3 + f, none⟩ u) g c n vk (L.set j y) rq lf :=
  ⟨h.b1.far (p := ⟨g, j * 3 + f, none⟩) (fun e => by have := h.ge; have e' : w.heap.size = g := e; omega) u, h.b2.far (p := ⟨g, j * 3 + f, none⟩) (fun e => by have := h.ge; have e' : w.heap.size + 1 = g := e; omega) u, by rw [List.length_set]; exact h.len, h.ge, h.cells.setF hj hf u y hE, h.ok.below (by simp), h.low.setCell (p := ⟨g, j * 3 + f, none⟩) (by have := h.ge; show w.heap.size ≤ g; omega) u⟩
theorem FS.state (h : FS w M w1 g c n vk L rq lf) (hj : j < L.length) (x : Int) : FS w M (w1.setCell ⟨g, j * 3, none⟩ (.int .i64 x)) g c n vk (L.set j ⟨x, L[j].bytes, L[j].old⟩) rq lf :=
  h.field hj (f := 0) (by omega) (.int .i64 x) ⟨x, L[j].bytes, L[j].old⟩ (fun cs hcs => by obtain ⟨b', o', rfl, q1, q2⟩ := hcs; exact ⟨_, _, rfl, q1, q2⟩)
theorem FS.bytes (h : FS w M w1 g c n vk L rq lf) (hj : j < L.length) {u : Value} {b : List UInt8} (hu : SlR w1 (OM ((M.and w.heap.size).and (w.heap.size + 1)) (.slice (some ⟨g, 0, none⟩) n c)) u b) : FS w M (w1.setCell ⟨g, j * 3 + 1, none⟩ u) g c n vk (L.set j ⟨L[j].state, b, L[j].old⟩) rq lf :=
  h.field hj (f := 1) (by omega) u ⟨L[j].state, b, L[j].old⟩ (fun cs hcs => by obtain ⟨b', o', rfl, q1, q2⟩ := hcs; exact ⟨_, _, rfl, hu, q2⟩)
theorem FS.mok (h : FS w M w1 g c n vk L rq lf) : MOk w1 (OM ((M.and w.heap.size).and (w.heap.size + 1)) (.slice (some ⟨g, 0, none⟩) n c)) := fun b hb => hb.elim (h.ok b) (fun e => h.cells.own_lt e)
theorem FS.fin (h : FS w M w1 g c n vk L rq lf) (hM : MOk w M) {K : List Wri} (hk : ∀ w : World, SlR w M vk K) : Blk (st4 w1 (w.heap.size + 1) (.slice (some ⟨g, 0, none⟩) n c) vk (.int .i64 rq) (.int .i64 lf)) (w.heap.size + 1) 27 #[.slice (some ⟨g, 0, none⟩) n c, vk, .int .i64 rq, .int .i64 lf] ∧
    Rv (st4 w1 (w.heap.size + 1) (.slice (some ⟨g, 0, none⟩) n c) vk (.int .i64 rq) (.int .i64 lf)) M (.agg #[.slice (some ⟨g, 0, none⟩) n c, vk, .int .i64 rq, .int .i64 lf]) (⟨L, K, rq, lf⟩ : Dis) ∧
    Below w.heap.size w (st4 w1 (w.heap.size + 1) (.slice (some ⟨g, 0, none⟩) n c) vk (.int .i64 rq) (.int .i64 lf)) := by
  have hG := st4_grown w1 (w.heap.size + 1) (.slice (some ⟨g, 0, none⟩) n c) vk (.int .i64 rq) (.int .i64 lf)
  refine ⟨st4_blk h.b2 _ _ _ _, rv_dis.2 ⟨_, _, rfl, ?_, hk _⟩, st4_below h.low (Nat.le_succ _) _ _ _ _⟩
  exact ((h.cells.kept hG (.inr (by simp [Value.ownBlock]; have := h.ge; omega)) (fun b e => by cases e; exact .inr rfl)).less (fun b hb => .inl (.inl hb))).sl hM.new
theorem FS.err (h : FS w M w1 g c n vk L rq lf) : Blk (st4 w1 (w.heap.size + 1) (.slice none 0 0) (.slice none 0 0) (.int .i64 0) (.int .i64 0)) (w.heap.size + 1) 27 #[.slice none 0 0, .slice none 0 0, .int .i64 0, .int .i64 0] ∧
    Below w.heap.size w (st4 w1 (w.heap.size + 1) (.slice none 0 0) (.slice none 0 0) (.int .i64 0) (.int .i64 0)) :=
  ⟨st4_blk h.b2 _ _ _ _, st4_below h.low (Nat.le_succ _) _ _ _ _⟩
end
set_option maxRecDepth 100000 in
set_option maxHeartbeats 16000000 in
theorem fault_any (v : Value) (d : Dis) (kind a fr bit bs : Int) (w : World) (M : Ms) (h : Rv w M v d) (hM : MOk w M) (hl : d.cells.length ≤ 1000000000) (hkl : d.cache.length ≤ 1000000000) :
    Calls Try.prog 24 #[v, .int .i64 kind, .int .i64 a, .int .i64 fr, .int .i64 bit, .int .i64 bs] w fun e w' => ∃ r, e = .returned (.tuple #[r, .int .i64 (faultT d kind a fr bit bs).2]) ∧ Rv w' M r (faultT d kind a fr bit bs).1 ∧ Below w.heap.size w w' := by
  obtain ⟨c, k, rfl, hc, hk⟩ := rv_dis.1 h
  obtain ⟨ac, cc, rfl⟩ := hc.form
  obtain ⟨ak, ck, rfl⟩ := hk.form
  have P := Lib.hid (Pre.new h hM)
  have hR0 := Lib.hid h
  have hM' := Lib.hid hM
  clear h hc hk hM
  go_enter Try.func24, Try.ntmps24
  go_wp2_with fail
  generalize ((w.alloc (.cells #[.slice ac d.cells.length cc, .slice ak d.cache.length ck, .int .i64 d.reqs, .int .i64 d.left] 27)).alloc (.cells #[.slice none 0 0, .slice none 0 0, .int .i64 0, .int .i64 0] 27)) = w0 at *
  refine (check_any _ d w0 _ P.out.rv hl hkl).mono ?_
  rintro e w1 ⟨rfl, hB1⟩
  have P1 := Lib.hid (P.out.step hB1)
  clear P hB1
  have c1 := P1.out.b1.cell
  obtain ⟨c2, f2, l2⟩ := P1.out.b2.all
  cases hD : disB d
  · have hR := Lib.hid (show faultT d kind a fr bit bs = (noD, 1) by simp [faultT, okT, hD])
    rw [chkI_f hD]
    clear hD
    go_wp2
    obtain ⟨x1, x2, x3⟩ := P1.out.fin (.slice none 0 0) (.slice none 0 0) (.int .i64 0) (.int .i64 0)
    have hx := x1.cell
    unfold st4 at hx
    refine bodyPost_ret (v := .tuple #[.agg #[.slice none 0 0, .slice none 0 0, .int .i64 0, .int .i64 0], .int .i64 1]) (by simp [results, Try.results24, go_sem, hx]) rfl ?_
    rw [hR.out]
    exact ⟨_, rfl, rv_noD _ _, x3⟩
  have hin := Lib.hid (in_any a 0 (d.cells.length - 1))
  rw [chkI_t hD]
  cases hA : inB a 0 (d.cells.length - 1)
  · have hR := Lib.hid (show faultT d kind a fr bit bs = (noD, 1) by simp [faultT, okT, hD, hA])
    rw [hA] at hin
    clear hD hA
    go_wp2_with (go_at_call 32; refine (hin.out _).mono ?_; rintro e w' ⟨rfl, rfl⟩)
    obtain ⟨x1, x2, x3⟩ := P1.out.fin (.slice none 0 0) (.slice none 0 0) (.int .i64 0) (.int .i64 0)
    have hx := x1.cell
    unfold st4 at hx
    refine bodyPost_ret (v := .tuple #[.agg #[.slice none 0 0, .slice none 0 0, .int .i64 0, .int .i64 0], .int .i64 1]) (by simp [results, Try.results24, go_sem, hx]) rfl ?_
    rw [hR.out]
    exact ⟨_, rfl, rv_noD _ _, x3⟩
  rw [hA] at hin
  by_cases hch : d.cache.length = 0
  case neg =>
    have hR := Lib.hid (show faultT d kind a fr bit bs = (noD, 9) by simp only [faultT, okT, hD, hA, Bool.and_self, if_true]; rw [if_neg hch])
    have hcp : 0 < d.cache.length := by omega
    have hcp' : (0 : Int) < d.cache.length := by omega
    clear hD hA hch
    go_wp2_with (go_at_call 32; refine (hin.out _).mono ?_; rintro e w' ⟨rfl, rfl⟩)
    obtain ⟨x1, x2, x3⟩ := P1.out.fin (.slice none 0 0) (.slice none 0 0) (.int .i64 0) (.int .i64 0)
    have hx := x1.cell
    unfold st4 at hx
    refine bodyPost_ret (v := .tuple #[.agg #[.slice none 0 0, .slice none 0 0, .int .i64 0, .int .i64 0], .int .i64 9]) (by simp [results, Try.results24, go_sem, hx]) rfl ?_
    rw [hR.out]
    exact ⟨_, rfl, rv_noD _ _, x3⟩
  have hcn : ¬ 0 < d.cache.length := by omega
  have hcn' : ¬ (0 : Int) < d.cache.length := by omega
  obtain ⟨r1, r2, r3, r4, r5, r6, r7⟩ := disB_rng hD
  have hai : 0 ≤ a ∧ a < d.cells.length := by simp only [inB, Bool.and_eq_true, decide_eq_true_eq] at hA; omega
  obtain ⟨j, rfl⟩ := Int.eq_ofNat_of_zero_le hai.1
  have hj : j < d.cells.length := by omega
  have hR := Lib.hid (show faultT d kind j fr bit bs = match cellF d d.cells[j] kind fr bit bs with
        | some c' => ({ d with cells := d.cells.set j c' }, 0)
        | none => (noD, 1) by simp only [faultT, okT, hD, hA, Bool.and_self, if_true]; rw [if_pos hch, Int.toNat_natCast, List.getElem?_eq_getElem hj])
  have hsm := Lib.hid (okD_iff.1 hD).sm
  replace hch := Lib.hid hch
  clear hD hA hai r4
  go_wp2_with fail
  refine (hin.out _).mono ?_
  rintro e w1 ⟨rfl, rfl⟩
  go_wp2_with fail
  clear hcn hcn' c1 c2 f2 l2
  have hRv := Lib.hid (show Rv w1 ((M.and w.heap.size).and (w.heap.size + 1)) (.agg #[.slice ac d.cells.length cc, .slice ak d.cache.length ck, .int .i64 d.reqs, .int .i64 d.left]) d from
    hR0.out.mono fun b hb hm => ⟨by rintro ((h | h) | h); exact hm h; omega; omega, P1.out.below.block b hb⟩)
  have hOk := Lib.hid (show MOk w1 ((M.and w.heap.size).and (w.heap.size + 1)) from fun b hb => by
    rcases hb with (hb | rfl) | rfl
    · exact Nat.lt_of_lt_of_le (hM'.out b hb) P1.out.below.size
    · exact P1.out.b1.lt
    · exact P1.out.b2.lt)
  refine (dtwin_own _ d w1 _ hRv.out hOk.out hl hkl hsm.out.2.2.1 hsm.out.2.2.2).mono ?_
  rintro q w2 ⟨A1, n1, A2, n2, rfl, hO, hK, hB2⟩
  obtain ⟨g, cg, vb, vo, hv, hgg, hf, -, -, -, -, -⟩ := celO_at hO hj
  simp only [Value.slice.injEq] at hv
  obtain ⟨rfl, -, rfl⟩ := hv
  have hge : w.heap.size + 1 < g := Nat.lt_of_lt_of_le P1.out.b2.lt hgg
  have hG := st4_grown w2 w.heap.size (.slice (some ⟨g, 0, none⟩) d.cells.length n1) (.slice A2 d.cache.length n2) (.int .i64 d.reqs) (.int .i64 d.left)
  have F0 : FS w M (st4 w2 w.heap.size (.slice (some ⟨g, 0, none⟩) d.cells.length n1) (.slice A2 d.cache.length n2) (.int .i64 d.reqs) (.int .i64 d.left)) g n1 d.cells.length (.slice A2 d.cache.length n2) d.cells d.reqs d.left :=
    ⟨st4_blk (P1.out.b1.below hB2) _ _ _ _, (P1.out.b2.below hB2).grown hG (by simp), rfl, hge, (hO.mono_base P1.out.below.size).kept hG (.inr (by simp [Value.ownBlock]; omega)) (fun b e => by cases e; exact .inl (.inr rfl)), (hOk.out.below hB2.size).below hG.size, st4_below (P1.out.below.trans (hB2.mono P1.out.below.size)) (Nat.le_refl _) _ _ _ _⟩
  have F := Lib.hid F0
  have hKn := Lib.hid (show ∀ w : World, SlR w M (.slice A2 d.cache.length n2) d.cache from fun w' => by
    have e : d.cache = [] := List.eq_nil_of_length_eq_zero hch.out
    obtain ⟨a, c, xs, e1, e2, e3, -, -⟩ := hK
    cases e1
    rw [e]
    exact ⟨_, _, [], rfl, by simp, e3, rfl, fun h => absurd rfl h⟩)
  obtain ⟨c3, f3, l3⟩ := (P1.out.b1.below hB2).all
  have hne1 : ¬ g = w.heap.size := by omega
  have hne2 : ¬ g = w.heap.size + 1 := by omega
  have hne3 : ¬ w.heap.size = g := by omega
  have hne4 : ¬ w.heap.size + 1 = g := by omega
  clear hO hK hgg hf hge hG F0 hB2 hRv hOk P1 hR0
  have hj' : (j : Int) < d.cells.length := by omega
  obtain ⟨d1, d2, d3⟩ := F.out.b1.all
  obtain ⟨e1, e2, e3⟩ := F.out.b2.all
  obtain ⟨g', cg, vb, vo, hv, -, hf, y0, y1, y2, z1, z2⟩ := celO_at F.out.cells hj
  simp only [Value.slice.injEq, Option.some.injEq, Addr.mk.injEq, and_true, true_and] at hv
  obtain ⟨rfl, rfl⟩ := hv
  obtain ⟨ab, cb, rfl⟩ := z1.form
  obtain ⟨ao, co, rfl⟩ := z2.form
  unfold st4 at d1 d2 d3 e1 e2 e3 hf y0 y1 y2
  by_cases k1 : kind = 11
  · subst k1
    by_cases hs : d.cells[j].state = 0
    · have F1 := Lib.hid (F.out.state hj 1)
      have hR1 := Lib.hid (show faultT d 11 j fr bit bs = (⟨d.cells.set j ⟨1, d.cells[j].bytes, d.cells[j].old⟩, d.cache, d.reqs, d.left⟩, 0) by rw [hR.out]; simp [cellF, hs])
      have hs' : (d.cells[j].state == 0) = true := by simp [hs]
      clear hs
      go_wp2
      obtain ⟨x1, x2, x3⟩ := F1.out.fin hM'.out hKn.out
      have hx := x1.cell
      unfold st4 at hx
      refine bodyPost_ret (v := .tuple #[.agg #[.slice (some ⟨g, 0, none⟩) d.cells.length n1, .slice A2 d.cache.length n2, .int .i64 d.reqs, .int .i64 d.left], .int .i64 0]) (by simp [results, Try.results24, go_sem, hx]) rfl ?_
      rw [hR1.out]
      exact ⟨_, rfl, x2, x3⟩
    · have F1 := F
      have hR1 := Lib.hid (show faultT d 11 j fr bit bs = (⟨d.cells, d.cache, d.reqs, d.left⟩, 0) by rw [hR.out]; simp [cellF, hs])
      have hs' : (d.cells[j].state == 0) = false := by simpa using hs
      clear hs
      go_wp2
      obtain ⟨x1, x2, x3⟩ := F1.out.fin hM'.out hKn.out
      have hx := x1.cell
      unfold st4 at hx
      refine bodyPost_ret (v := .tuple #[.agg #[.slice (some ⟨g, 0, none⟩) d.cells.length n1, .slice A2 d.cache.length n2, .int .i64 d.reqs, .int .i64 d.left], .int .i64 0]) (by simp [results, Try.results24, go_sem, hx]) rfl ?_
      rw [hR1.out]
      exact ⟨_, rfl, x2, x3⟩
  have q1 : (kind == 11) = false := by simpa using k1
  by_cases k2 : kind = 12
  · subst k2
    have F1 := Lib.hid (F.out.state hj 2)
    have hR1 := Lib.hid (show faultT d 12 j fr bit bs = (⟨d.cells.set j ⟨2, d.cells[j].bytes, d.cells[j].old⟩, d.cache, d.reqs, d.left⟩, 0) by rw [hR.out]; rfl)
    go_wp2
    obtain ⟨x1, x2, x3⟩ := F1.out.fin hM'.out hKn.out
    have hx := x1.cell
    unfold st4 at hx
    refine bodyPost_ret (v := .tuple #[.agg #[.slice (some ⟨g, 0, none⟩) d.cells.length n1, .slice A2 d.cache.length n2, .int .i64 d.reqs, .int .i64 d.left], .int .i64 0]) (by simp [results, Try.results24, go_sem, hx]) rfl ?_
    rw [hR1.out]
    exact ⟨_, rfl, x2, x3⟩
  have q2 : (kind == 12) = false := by simpa using k2
  by_cases k3 : kind = 13
  · subst k3
    by_cases hb1 : bit < 0
    · have hR1 := Lib.hid (show faultT d 13 j fr bit bs = (noD, 1) by rw [hR.out]; simp [cellF, hb1])
      go_wp2
      obtain ⟨x1, x3⟩ := F.out.err
      have hx := x1.cell
      unfold st4 at hx
      refine bodyPost_ret (v := .tuple #[.agg #[.slice none 0 0, .slice none 0 0, .int .i64 0, .int .i64 0], .int .i64 1]) (by simp [results, Try.results24, go_sem, hx]) rfl ?_
      rw [hR1.out]
      exact ⟨_, rfl, rv_noD _ _, x3⟩
    by_cases hb2 : bs < 0
    · have hR1 := Lib.hid (show faultT d 13 j fr bit bs = (noD, 1) by rw [hR.out]; simp [cellF, hb2])
      go_wp2
      obtain ⟨x1, x3⟩ := F.out.err
      have hx := x1.cell
      unfold st4 at hx
      refine bodyPost_ret (v := .tuple #[.agg #[.slice none 0 0, .slice none 0 0, .int .i64 0, .int .i64 0], .int .i64 1]) (by simp [results, Try.results24, go_sem, hx]) rfl ?_
      rw [hR1.out]
      exact ⟨_, rfl, rv_noD _ _, x3⟩
    have hR1 := Lib.hid (show faultT d 13 j fr bit bs = (⟨d.cells.set j ⟨d.cells[j].state, flipS d.cells[j].bytes bit bs, d.cells[j].old⟩, d.cache, d.reqs, d.left⟩, 0) by rw [hR.out]; simp [cellF, hb1, hb2])
    have Z1 := Lib.hid z1
    have hbl := Lib.hid (r6 _ (List.getElem_mem hj)).1
    clear z1 z2 r6 r7
    go_wp2_with fail
    refine (flip_any _ d.cells[j].bytes bit bs _ _ _ Z1.out F.out.mok (Nat.le_trans hbl.out (by omega))).mono ?_
    rintro q w4 ⟨r4, rfl, hr4, hB4⟩
    clear d1 d2 d3 e1 e2 e3 hf y0 y1 y2
    have F4 := Lib.hid (F.out.up hB4)
    obtain ⟨Ar, Cr, rfl⟩ := SlR.form hr4
    have F1 := Lib.hid (F4.out.bytes hj hr4)
    obtain ⟨d1, d2, d3⟩ := F4.out.b1.all
    obtain ⟨e1, e2, e3⟩ := F4.out.b2.all
    obtain ⟨g', cg, vb, vo, hv, -, hf, y0, y1, y2, -, -⟩ := celO_at F4.out.cells hj
    simp only [Value.slice.injEq, Option.some.injEq, Addr.mk.injEq, and_true, true_and] at hv
    obtain ⟨rfl, rfl⟩ := hv
    clear hr4 hB4
    go_wp2
    obtain ⟨x1, x2, x3⟩ := F1.out.fin hM'.out hKn.out
    have hx := x1.cell
    unfold st4 at hx
    refine bodyPost_ret (v := .tuple #[.agg #[.slice (some ⟨g, 0, none⟩) d.cells.length n1, .slice A2 d.cache.length n2, .int .i64 d.reqs, .int .i64 d.left], .int .i64 0]) (by simp [results, Try.results24, go_sem, hx]) rfl ?_
    rw [hR1.out]
    exact ⟨_, rfl, x2, x3⟩
  have q3 : (kind == 13) = false := by simpa using k3
  by_cases k4 : kind = 14
  · subst k4
    have hR1 := Lib.hid (show faultT d 14 j fr bit bs = (⟨d.cells.set j ⟨d.cells[j].state, d.cells[j].old, d.cells[j].old⟩, d.cache, d.reqs, d.left⟩, 0) by rw [hR.out]; simp [cellF])
    have Z2 := Lib.hid z2
    have hbl := Lib.hid (r6 _ (List.getElem_mem hj)).2.1
    clear z1 z2 r6 r7
    go_wp2_with fail
    refine (bclone_any _ d.cells[j].old _ _ (rv_list.2 Z2.out) F.out.mok (Nat.le_trans hbl.out (by omega))).mono ?_
    rintro q w4 ⟨r4, rfl, hr4, hB4⟩
    replace hr4 := rv_list.1 hr4
    clear d1 d2 d3 e1 e2 e3 hf y0 y1 y2
    have F4 := Lib.hid (F.out.up hB4)
    obtain ⟨Ar, Cr, rfl⟩ := SlR.form hr4
    have F1 := Lib.hid (F4.out.bytes hj hr4)
    obtain ⟨d1, d2, d3⟩ := F4.out.b1.all
    obtain ⟨e1, e2, e3⟩ := F4.out.b2.all
    obtain ⟨g', cg, vb, vo, hv, -, hf, y0, y1, y2, -, -⟩ := celO_at F4.out.cells hj
    simp only [Value.slice.injEq, Option.some.injEq, Addr.mk.injEq, and_true, true_and] at hv
    obtain ⟨rfl, rfl⟩ := hv
    clear hr4 hB4
    go_wp2
    obtain ⟨x1, x2, x3⟩ := F1.out.fin hM'.out hKn.out
    have hx := x1.cell
    unfold st4 at hx
    refine bodyPost_ret (v := .tuple #[.agg #[.slice (some ⟨g, 0, none⟩) d.cells.length n1, .slice A2 d.cache.length n2, .int .i64 d.reqs, .int .i64 d.left], .int .i64 0]) (by simp [results, Try.results24, go_sem, hx]) rfl ?_
    rw [hR1.out]
    exact ⟨_, rfl, x2, x3⟩
  have q4 : (kind == 14) = false := by simpa using k4
  by_cases k5 : kind = 15
  · subst k5
    have hin2 := Lib.hid (in_any fr 0 (d.cells.length - 1))
    cases hA : inB fr 0 (d.cells.length - 1)
    · have hR1 := Lib.hid (show faultT d 15 j fr bit bs = (noD, 1) by rw [hR.out]; simp [cellF, hA])
      rw [hA] at hin2
      clear hA
      go_wp2_with (go_at_call 32; refine (hin2.out _).mono ?_; rintro e w' ⟨rfl, rfl⟩)
      obtain ⟨x1, x3⟩ := F.out.err
      have hx := x1.cell
      unfold st4 at hx
      refine bodyPost_ret (v := .tuple #[.agg #[.slice none 0 0, .slice none 0 0, .int .i64 0, .int .i64 0], .int .i64 1]) (by simp [results, Try.results24, go_sem, hx]) rfl ?_
      rw [hR1.out]
      exact ⟨_, rfl, rv_noD _ _, x3⟩
    rw [hA] at hin2
    have hfi : 0 ≤ fr ∧ fr < d.cells.length := by simp only [inB, Bool.and_eq_true, decide_eq_true_eq] at hA; omega
    obtain ⟨i, rfl⟩ := Int.eq_ofNat_of_zero_le hfi.1
    have hi : i < d.cells.length := by omega
    have hi' : (i : Int) < d.cells.length := by omega
    have hR1 := Lib.hid (show faultT d 15 j i bit bs = (⟨d.cells.set j ⟨d.cells[j].state, d.cells[i].bytes, d.cells[j].old⟩, d.cache, d.reqs, d.left⟩, 0) by rw [hR.out, show cellF d d.cells[j] 15 i bit bs = some ⟨d.cells[j].state, d.cells[i].bytes, d.cells[j].old⟩ by unfold cellF; rw [if_neg (by decide), if_neg (by decide), if_neg (by decide), if_neg (by decide), if_pos rfl, if_pos hA, Int.toNat_natCast, List.getElem?_eq_getElem hi]; rfl])
    obtain ⟨g', cg, vb, vo, hv, -, -, -, y5, -, z5, -⟩ := celO_at F.out.cells hi
    simp only [Value.slice.injEq, Option.some.injEq, Addr.mk.injEq, and_true, true_and] at hv
    obtain ⟨rfl, rfl⟩ := hv
    obtain ⟨a5, c5, rfl⟩ := z5.form
    unfold st4 at y5
    have Z5 := Lib.hid z5
    have hbl := Lib.hid (r6 _ (List.getElem_mem hi)).1
    clear z1 z2 z5 r6 r7 hA hfi
    go_wp2_with fail
    refine (hin2.out _).mono ?_
    rintro q w4 ⟨rfl, rfl⟩
    go_wp2_with fail
    clear y5
    refine (bclone_any _ d.cells[i].bytes _ _ (rv_list.2 Z5.out) F.out.mok (Nat.le_trans hbl.out (by omega))).mono ?_
    rintro q w4 ⟨r4, rfl, hr4, hB4⟩
    replace hr4 := rv_list.1 hr4
    clear d1 d2 d3 e1 e2 e3 hf y0 y1 y2
    have F4 := Lib.hid (F.out.up hB4)
    obtain ⟨Ar, Cr, rfl⟩ := SlR.form hr4
    have F1 := Lib.hid (F4.out.bytes hj hr4)
    obtain ⟨d1, d2, d3⟩ := F4.out.b1.all
    obtain ⟨e1, e2, e3⟩ := F4.out.b2.all
    obtain ⟨g', cg, vb, vo, hv, -, hf, y0, y1, y2, -, -⟩ := celO_at F4.out.cells hj
    simp only [Value.slice.injEq, Option.some.injEq, Addr.mk.injEq, and_true, true_and] at hv
    obtain ⟨rfl, rfl⟩ := hv
    clear hr4 hB4
    go_wp2
    obtain ⟨x1, x2, x3⟩ := F1.out.fin hM'.out hKn.out
    have hx := x1.cell
    unfold st4 at hx
    refine bodyPost_ret (v := .tuple #[.agg #[.slice (some ⟨g, 0, none⟩) d.cells.length n1, .slice A2 d.cache.length n2, .int .i64 d.reqs, .int .i64 d.left], .int .i64 0]) (by simp [results, Try.results24, go_sem, hx]) rfl ?_
    rw [hR1.out]
    exact ⟨_, rfl, x2, x3⟩
  have q5 : (kind == 15) = false := by simpa using k5
  have hR1 := Lib.hid (show faultT d kind j fr bit bs = (noD, 1) by rw [hR.out]; simp [cellF, k1, k2, k3, k4, k5])
  go_wp2
  obtain ⟨x1, x3⟩ := F.out.err
  have hx := x1.cell
  unfold st4 at hx
  refine bodyPost_ret (v := .tuple #[.agg #[.slice none 0 0, .slice none 0 0, .int .i64 0, .int .i64 0], .int .i64 1]) (by simp [results, Try.results24, go_sem, hx]) rfl ?_
  rw [hR1.out]
  exact ⟨_, rfl, rv_noD _ _, x3⟩
end Go.Proofs.Ytkdjacmabeeceaa
