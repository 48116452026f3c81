/-
The contract of package disk's function Crash.
-/
import Derived.Test.YtkdjacmabeeceaaTop2
namespace Go.Proofs.Ytkdjacmabeeceaa
open Go.RowKit
attribute [local go_sem ↓] Go.wp_at_zero Go.wp_at_succ

def sel (keep : Int) (k : Nat) : Bool := bits .and .i64 (keep / 2 ^ (k % 31)) 1 == 1
/-- The first k writes, those that keep picks carried out. -/
def runK (keep : Int) (l : List Cel) (ws : List Wri) : Nat → List Cel
  | 0 => l
  | k + 1 => match ws[k]? with
    | some x => if sel keep k then doneC (runK keep l ws k) x.addr.toNat x.bytes else runK keep l ws k
    | none => runK keep l ws k
theorem runK_length (keep : Int) (l : List Cel) (ws : List Wri) (k : Nat) : (runK keep l ws k).length = l.length := by
  induction k with
  | zero => rfl
  | succ k ih =>
    unfold runK; split
    · split
      · rw [doneC_length, ih]
      · exact ih
    · exact ih
def crashD (d : Dis) (keep : Int) : Dis := { d with cells := runK keep d.cells d.cache d.cache.length, cache := [], left := -1 }
def crashT (d : Dis) (keep : Int) : Dis × Int := if disB d && decide (0 ≤ keep) then (crashD d keep, 0) else (noD, 1)
def kD (d : Dis) (keep : Int) (k : Nat) : Dis := { d with cells := runK keep d.cells d.cache k }

theorem okD_runK {keep : Int} {l : List Cel} {ws : List Wri} (h : ∀ c ∈ l, 0 ≤ c.state ∧ c.state ≤ 2 ∧ c.bytes.length ≤ 200 ∧ c.old.length ≤ 200) (hb : ∀ x ∈ ws, x.bytes.length ≤ 200) (k : Nat) :
    ∀ c ∈ runK keep l ws k, 0 ≤ c.state ∧ c.state ≤ 2 ∧ c.bytes.length ≤ 200 ∧ c.old.length ≤ 200 := by
  induction k with
  | zero => exact h
  | succ k ih =>
    unfold runK; split
    · rename_i x hx
      split
      · exact okD_done ih (hb x (List.mem_of_getElem? hx))
      · exact ih
    · exact ih
theorem OkD.crash {d : Dis} {keep : Int} (h : OkD d) : OkD (crashD d keep) := by
  refine ⟨⟨by simp only [crashD, runK_length]; exact h.1.1, by simp only [crashD, runK_length]; exact h.1.2.1, by simp [crashD], h.1.2.2.2.1, h.1.2.2.2.2.1, by simp [crashD], by simp [crashD]⟩, okD_runK h.2.1 (fun x hx => (h.2.2 x hx).2.2) _, by simp [crashD]⟩

set_option maxHeartbeats 4000000 in
theorem tcrash_any (v : Value) (d : Dis) (keep : Int) (w : World) (M : Ms) (h : Rv w M v d) (hM : MOk w M) (hl : d.cells.length ≤ 1000000000) (hkl : d.cache.length ≤ 1000000000) (hk63 : keep < 9223372036854775808) :
    Calls Try.prog 17 #[v, .int .i64 keep] w fun e w' => ∃ r, e = .returned (.tuple #[r, .int .i64 (crashT d keep).2]) ∧ Rv w' M r (crashT d keep).1 ∧ Below w.heap.size w w' := by
  obtain ⟨c, k, rfl, hc, hk⟩ := rv_dis.1 h
  obtain ⟨ac, cc, rfl⟩ := hc.form
  obtain ⟨ak, ck, rfl⟩ := hk.form
  have P := Lib.hid (Pre.new h hM)
  clear h hc hk
  go_enter Try.func17, Try.ntmps17
  go_wp2_with fail
  generalize ((w.alloc (.cells #[.slice ac d.cells.length cc, .slice ak d.cache.length ck, .int .i64 d.reqs, .int .i64 d.left] 27)).alloc (.cells #[.slice none 0 0, .slice none 0 0, .int .i64 0, .int .i64 0] 27)) = w0 at *
  refine (check_any _ d w0 _ P.out.rv hl hkl).mono ?_
  rintro e w1 ⟨rfl, hB1⟩
  have P1 := Lib.hid (P.out.step hB1)
  clear P hB1
  have c1 := P1.out.b1.cell
  obtain ⟨c2, f2, l2⟩ := P1.out.b2.all
  cases hD : disB d
  · have hR := Lib.hid (show crashT d keep = (noD, 1) by simp [crashT, hD])
    rw [chkI_f hD]
    clear hD
    go_wp2
    obtain ⟨x1, x2, x3⟩ := P1.out.fin (.slice none 0 0) (.slice none 0 0) (.int .i64 0) (.int .i64 0)
    have hx := x1.cell
    unfold st4 at hx
    refine bodyPost_ret (v := .tuple #[.agg #[.slice none 0 0, .slice none 0 0, .int .i64 0, .int .i64 0], .int .i64 1]) (by simp [results, Try.results17, go_sem, hx]) rfl ?_
    rw [hR.out]
    exact ⟨_, rfl, rv_noD _ _, x3⟩
  rw [chkI_t hD]
  by_cases hK : 0 ≤ keep
  case neg =>
    have hR := Lib.hid (show crashT d keep = (noD, 1) by simp [crashT, hK])
    have hK' : keep < 0 := by omega
    clear hD
    go_wp2
    obtain ⟨x1, x2, x3⟩ := P1.out.fin (.slice none 0 0) (.slice none 0 0) (.int .i64 0) (.int .i64 0)
    have hx := x1.cell
    unfold st4 at hx
    refine bodyPost_ret (v := .tuple #[.agg #[.slice none 0 0, .slice none 0 0, .int .i64 0, .int .i64 0], .int .i64 1]) (by simp [results, Try.results17, go_sem, hx]) rfl ?_
    rw [hR.out]
    exact ⟨_, rfl, rv_noD _ _, x3⟩
  obtain ⟨r1, r2, r3, r4, r5, r6, r7⟩ := disB_rng hD
  have hR := Lib.hid (show crashT d keep = (crashD d keep, 0) by simp [crashT, hD, hK])
  have hD := Lib.hid hD
  clear r4
  go_wp2_with fail
  clear c1 c2 f2 l2
  refine (own_any _ d _ _ P1.out.rv (by omega) (by omega)).mono ?_
  rintro e w2 ⟨bd, vc, vk, rfl, hd2, hB2⟩
  obtain ⟨a, c, rfl⟩ := hd2.cache.form
  have P2 := Lib.hid (P1.out.res hB2)
  have D2 := Lib.hid hd2
  have hB2 := Lib.hid hB2
  have c2 := hd2.blk.cell
  have hl2 := P1.out.b2.lt
  clear hd2
  go_wp2
  clear c2
  have J := Lib.hid D2.out.same
  go_loopw [25] (fun i wr => ∃ k : Nat, k ≤ d.cache.length ∧ i = .int .i64 k ∧ Hid (DStep w2 (M.and (w.heap.size + 1)) w1.heap.size bd vc (.slice a d.cache.length c) wr vc (.slice a d.cache.length c) (kD d keep k))) (fun i _ => d.cache.length - (intOf i).toNat)
  case atStart => exact ⟨0, Nat.zero_le _, rfl, J⟩
  case round =>
    obtain ⟨k, hk, rfl, HS⟩ := hrel
    by_cases hlt : k < d.cache.length
    · obtain ⟨g, cc, vb, hvv, hg, e0, e1, q1⟩ := wriO_at HS.out.drv.cache hlt
      have hvv : Value.slice a d.cache.length c = .slice (some ⟨g, 0, none⟩) d.cache.length cc := hvv
      simp only [Value.slice.injEq, true_and] at hvv
      obtain ⟨rfl, rfl⟩ := hvv
      have e0' : wr.cell? ⟨g, k * 2, none⟩ = some (.int .i64 d.cache[k].addr) := e0
      obtain ⟨ab, cb, rfl⟩ := q1.form
      have e1' : wr.cell? ⟨g, k * 2 + 1, none⟩ = some (.slice ab d.cache[k].bytes.length cb) := e1
      have hwk := r2 d.cache[k] (List.getElem_mem hlt)
      obtain ⟨j, hj⟩ : ∃ j : Nat, d.cache[k].addr = j := ⟨_, (Int.toNat_of_nonneg hwk.1).symm⟩
      rw [hj] at e0' hwk
      have hjl : j < (kD d keep k).cells.length := by rw [kD, runK_length]; omega
      have Hj := Lib.hid hj
      have hB := Lib.hid ((Below.refl wr.heap.size wr).alloc (Nat.le_refl _) (.cells #[.int .i64 j, .slice ab d.cache[k].bytes.length cb] 78))
      have H2 := Lib.hid (HS.out.drv.belowd hB.out (Nat.le_trans hB2.out.size HS.out.below.size))
      have R2 := Lib.hid (SlR.mono (SlR.mono q1 (Keep.below hB.out)) (Keep.less (M' := DA (M.and (w.heap.size + 1)) bd vc (.slice (some ⟨g, 0, none⟩) d.cache.length c)) (fun x hx => DA.of' hx)))
      clear e0 e1 hj q1
      have hrun1 : sel keep k = true → kD d keep (k + 1) = { kD d keep k with cells := doneC (kD d keep k).cells j d.cache[k].bytes } := by
        intro hs; simp only [kD, runK, List.getElem?_eq_getElem hlt, hs, if_true, Hj.out]; rfl
      have hrun0 : sel keep k = false → kD d keep (k + 1) = kD d keep k := by
        intro hs; simp [kD, runK, List.getElem?_eq_getElem hlt, hs]
      have Hr1 := Lib.hid hrun1
      have Hr0 := Lib.hid hrun0
      clear hrun1 hrun0
      go_wp2_with (go_at_call 38; refine (done_any _ (M.and (w.heap.size + 1)) w1.heap.size bd vc _ _ (kD d keep k) j d.cache[k].bytes H2.out.drv (Nat.le_trans (Nat.le_trans hB2.out.size HS.out.below.size) hB.out.size) hjl R2.out).mono ?_; rintro e w3 ⟨rfl, h3⟩; have H3 := Lib.hid (HS.out.trans (H2.out.trans h3)); clear h3)
      · have hs : sel keep k = true := ‹_›
        go_roundw
        case rel => exact ⟨k + 1, by omega, by go_num, by rw [Hr1.out hs]; exact H3⟩
        case measure => simp [intOf]; omega
      · have hs : sel keep k = false := ‹_›
        go_roundw
        case rel => exact ⟨k + 1, by omega, by go_num, by rw [Hr0.out hs]; exact Lib.hid (HS.out.trans H2.out)⟩
        case measure => simp [intOf]; omega
    · obtain rfl : k = d.cache.length := by omega
      obtain ⟨c3, f3, l3⟩ := HS.out.drv.blk.all
      have c3' : ∀ i, wr.cell? ⟨bd, i, none⟩ = #[vc, .slice a d.cache.length c, .int .i64 d.reqs, .int .i64 d.left][i]? := c3
      obtain ⟨Ac, nc, rfl⟩ := HS.out.drv.cells.form
      clear c3
      go_wp2_with fail
      have h3 := HS.out.trans HS.out.drv.noCache
      have h4 := h3.trans (h3.drv.head (grownBy_set _ bd 3 (.int .i64 (-1))) (h3.drv.blk.set_ 3 (.int .i64 (-1))) (Nat.le_trans hB2.out.size h3.below.size))
      have hE : ({ kD d keep d.cache.length with cache := [], left := -1 } : Dis) = crashD d keep := rfl
      have P3 := Lib.hid (P2.out.step h4.below hl2)
      have D3 : DrvR _ _ _ _ _ _ (crashD d keep) := h4.drv
      have D3 := Lib.hid D3
      have hOK := Lib.hid (OkD.crash (keep := keep) (okD_iff.1 hD.out))
      have hlen := (show (kD d keep d.cache.length).cells.length = (crashD d keep).cells.length from rfl)
      rw [hlen] at D3 ⊢
      clear h3 h4 hE hB2 D2 P2 c3' f3 l3 HS J hlen
      have hred : (crashD d keep).reqs = d.reqs := rfl
      have hlef : (crashD d keep).left = -1 := rfl
      rw [← hred]
      generalize (wr.setCell ⟨bd, 1, none⟩ (.slice none 0 0)).setCell ⟨bd, 3, none⟩ (.int .i64 (-1)) = w5 at *
      have hA := Lib.hid (D3.out.rv P1.out.ok.new)
      rw [hlef] at hA
      generalize crashD d keep = d3 at *
      clear hred hlef
      refine (dtwin_any _ d3 w5 _ hA.out P3.out.ok hOK.out.sm.1 hOK.out.sm.2.1 hOK.out.sm.2.2.1 hOK.out.sm.2.2.2).mono ?_
      rintro e w4 ⟨r, rfl, hr, hB4⟩
      have P4 := Lib.hid (P3.out.step hB4 (by have := P3.out.b2.lt; omega))
      obtain ⟨c4, k4, rfl, hc4, hk4⟩ := rv_dis.1 hr
      obtain ⟨Ac4, nc4, rfl⟩ := hc4.form
      obtain ⟨Ak4, nk4, rfl⟩ := hk4.form
      have Hr := Lib.hid hr
      obtain ⟨c2, f2, l2⟩ := P4.out.b2.all
      clear hc4 hk4 hr hB4
      go_wp2
      obtain ⟨x1, x2, x3⟩ := P4.out.fin (.slice Ac4 d3.cells.length nc4) (.slice Ak4 d3.cache.length nk4) (.int .i64 d3.reqs) (.int .i64 d3.left)
      have hx := x1.cell
      unfold st4 at hx
      refine bodyPost_ret (v := .tuple #[.agg #[.slice Ac4 d3.cells.length nc4, .slice Ak4 d3.cache.length nk4, .int .i64 d3.reqs, .int .i64 d3.left], .int .i64 0]) (by simp [results, Try.results17, go_sem, hx]) rfl ?_
      rw [hR.out]
      exact ⟨_, rfl, Hr.out.mono x2, x3⟩
end Go.Proofs.Ytkdjacmabeeceaa
