/-
The contracts of package disk's functions Write, Flush, Read, Crash.
-/
import Derived.Test.YtkdjacmabeeceaaTwin
namespace Go.Proofs.Ytkdjacmabeeceaa
open Go.RowKit
attribute [local go_sem ↓] Go.wp_at_zero Go.wp_at_succ

def noD : Dis := ⟨[], [], 0, 0⟩
def okT (d : Dis) (a : Int) : Bool := disB d && inB a 0 (d.cells.length - 1)
def writeT (d : Dis) (a : Int) (b : List UInt8) : Dis × Int := if okT d a && decide (b.length ≤ 200) then writeD d a.toNat b else (noD, 1)

/-- A disk stored into a block of its own. -/
def st4 (w : World) (b : Nat) (v0 v1 v2 v3 : Value) : World := (((w.setCell ⟨b, 0, none⟩ v0).setCell ⟨b, 1, none⟩ v1).setCell ⟨b, 2, none⟩ v2).setCell ⟨b, 3, none⟩ v3
theorem st4_grown (w : World) (b : Nat) (v0 v1 v2 v3 : Value) : w.grownBy (st4 w b v0 v1 v2 v3) (some b) :=
  grownBy_trans (grownBy_trans (grownBy_trans (grownBy_set _ _ _ _) (grownBy_set _ _ _ _)) (grownBy_set _ _ _ _)) (grownBy_set _ _ _ _)
theorem st4_blk {w : World} {b : Nat} {t : TypeId} {u0 u1 u2 u3 : Value} (h : Blk w b t #[u0, u1, u2, u3]) (v0 v1 v2 v3 : Value) : Blk (st4 w b v0 v1 v2 v3) b t #[v0, v1, v2, v3] :=
  (((h.set_ 0 v0).set_ 1 v1).set_ 2 v2).set_ 3 v3
theorem st4_keep (w : World) (M : Ms) (b : Nat) (v0 v1 v2 v3 : Value) : Keep w (M.and b) (st4 w b v0 v1 v2 v3) M :=
  fun x hx hm => ⟨fun h => hm (.inl h), (st4_grown w b v0 v1 v2 v3).block x hx (fun e => hm (.inr (by injection e)))⟩
theorem st4_below {n b : Nat} {a w : World} (h : Below n a w) (hb : n ≤ b) (v0 v1 v2 v3 : Value) : Below n a (st4 w b v0 v1 v2 v3) :=
  (((h.setCell (p := ⟨b, 0, none⟩) hb v0).setCell (p := ⟨b, 1, none⟩) hb v1).setCell (p := ⟨b, 2, none⟩) hb v2).setCell (p := ⟨b, 3, none⟩) hb v3
theorem rv_noD (w : World) (M : Ms) : Rv w M (.agg #[.slice none 0 0, .slice none 0 0, .int .i64 0, .int .i64 0]) noD :=
  rv_dis.2 ⟨_, _, rfl, ⟨none, 0, [], rfl, by simp [noD], by simp [maxLen], rfl, fun h => absurd rfl h⟩, ⟨none, 0, [], rfl, by simp [noD], by simp [maxLen], rfl, fun h => absurd rfl h⟩⟩
theorem disB_rng {d : Dis} (h : disB d = true) : rngB d ∧ wriR d ∧ d.cells.length ≤ 300 ∧ 1 ≤ d.cells.length ∧ d.cache.length ≤ 2000 ∧ (∀ c ∈ d.cells, c.bytes.length ≤ 200 ∧ c.old.length ≤ 200 ∧ 0 ≤ c.state ∧ c.state ≤ 2) ∧ ∀ c ∈ d.cache, c.bytes.length ≤ 200 := by
  simp only [disB, headB, inB, cellB, wriB, Bool.and_eq_true, decide_eq_true_eq, List.all_eq_true] at h
  refine ⟨⟨by omega, by omega, by omega, by omega⟩, fun x hx => by have := h.2 x hx; omega, by omega, by omega, by omega, fun c hc => by have := h.1.2 c hc; omega, fun c hc => by have := h.2 c hc; omega⟩
theorem chkI_t {d : Dis} (h : disB d = true) : chkI d = 0 := by simp [chkI, h]
theorem chkI_f {d : Dis} (h : disB d = false) : chkI d = 1 := by simp [chkI, h]

/-- A disk in form, spelled out. -/
def OkD (d : Dis) : Prop := (1 ≤ d.cells.length ∧ d.cells.length ≤ 300 ∧ d.cache.length ≤ 2000 ∧ rngB d) ∧ (∀ c ∈ d.cells, 0 ≤ c.state ∧ c.state ≤ 2 ∧ c.bytes.length ≤ 200 ∧ c.old.length ≤ 200) ∧ ∀ x ∈ d.cache, 0 ≤ x.addr ∧ x.addr < d.cells.length ∧ x.bytes.length ≤ 200
theorem okD_iff {d : Dis} : disB d = true ↔ OkD d := by
  simp only [disB, headB, inB, cellB, wriB, Bool.and_eq_true, decide_eq_true_eq, List.all_eq_true, OkD, rngB]
  constructor
  · intro h
    exact ⟨⟨by omega, by omega, by omega, by omega, by omega, by omega, by omega⟩, fun c hc => by have := h.1.2 c hc; omega, fun c hc => by have := h.2 c hc; omega⟩
  · intro h
    exact ⟨⟨by omega, fun c hc => by have := h.2.1 c hc; omega⟩, fun c hc => by have := h.2.2 c hc; omega⟩
theorem OkD.req {d : Dis} (h : OkD d) : OkD (reqD d) := by
  obtain ⟨⟨h1, h2, h3, h4, h5, h6, h7⟩, h8, h9⟩ := h
  refine ⟨⟨h1, h2, h3, ?_, ?_, ?_, ?_⟩, h8, h9⟩
  all_goals simp only [reqD]
  · omega
  · omega
  · split <;> omega
  · split <;> omega
theorem OkD.write {d : Dis} (h : OkD d) {j : Nat} {b : List UInt8} (hj : j < d.cells.length) (hb : b.length ≤ 200) : OkD (writeD d j b).1 := by
  unfold writeD
  split
  · exact h
  split
  · exact h.req
  · rename_i hn
    have hq := h.req
    refine ⟨⟨hq.1.1, hq.1.2.1, ?_, hq.1.2.2.2⟩, hq.2.1, fun x hx => ?_⟩
    · simp only [List.length_append, List.length_cons, List.length_nil]; omega
    · rcases List.mem_append.1 hx with hx | hx
      · exact hq.2.2 x hx
      · rw [List.mem_singleton] at hx; subst hx; exact ⟨by simp, by simpa [reqD] using hj, hb⟩
theorem OkD.read {d : Dis} (h : OkD d) : OkD (readD d) := by
  unfold readD; split
  · exact h
  · exact h.req
theorem okD_done {l : List Cel} {j : Nat} {b : List UInt8} (h : ∀ c ∈ l, 0 ≤ c.state ∧ c.state ≤ 2 ∧ c.bytes.length ≤ 200 ∧ c.old.length ≤ 200) (hb : b.length ≤ 200) :
    ∀ c ∈ doneC l j b, 0 ≤ c.state ∧ c.state ≤ 2 ∧ c.bytes.length ≤ 200 ∧ c.old.length ≤ 200 := by
  unfold doneC
  split
  · rename_i c hc
    split
    · exact h
    · intro x hx
      rcases List.mem_or_eq_of_mem_set hx with hx | rfl
      · exact h x hx
      · exact ⟨by simp, by simp, hb, (h c (List.mem_of_getElem? hc)).2.2.1⟩
  · exact h
theorem okD_run {l : List Cel} {ws : List Wri} (h : ∀ c ∈ l, 0 ≤ c.state ∧ c.state ≤ 2 ∧ c.bytes.length ≤ 200 ∧ c.old.length ≤ 200) (hb : ∀ x ∈ ws, x.bytes.length ≤ 200) :
    ∀ c ∈ runC l ws, 0 ≤ c.state ∧ c.state ≤ 2 ∧ c.bytes.length ≤ 200 ∧ c.old.length ≤ 200 := by
  induction ws generalizing l with
  | nil => exact h
  | cons x t ih => exact ih (okD_done h (hb x (by simp))) (fun y hy => hb y (by simp [hy]))
theorem OkD.flush {d : Dis} (h : OkD d) : OkD (flushD d).1 := by
  unfold flushD
  split
  · exact h
  · have hq := h.req
    refine ⟨⟨by simp only [runC_length]; exact h.1.1, by simp only [runC_length]; exact h.1.2.1, by simp, hq.1.2.2.2⟩, okD_run h.2.1 (fun x hx => (h.2.2 x hx).2.2), by simp⟩
def smD (d : Dis) : Prop := d.cells.length ≤ 1000000000 ∧ d.cache.length ≤ 1000000000 ∧ (∀ c ∈ d.cells, c.bytes.length ≤ 1000000000 ∧ c.old.length ≤ 1000000000) ∧ ∀ c ∈ d.cache, c.bytes.length ≤ 1000000000
theorem OkD.sm {d : Dis} (h : OkD d) : smD d := ⟨by have := h.1; omega, by have := h.1; omega, fun c hc => by have := h.2.1 c hc; omega, fun c hc => by have := h.2.2 c hc; omega⟩

/-- What stands while a function of package disk works: its parameter's block, its result's block. -/
structure Pre (w : World) (M : Ms) (w1 : World) (c k : Value) (d : Dis) : Prop where
  rv : Rv w1 (M.and (w.heap.size + 1)) (.agg #[c, k, .int .i64 d.reqs, .int .i64 d.left]) d
  b1 : Blk w1 w.heap.size 27 #[c, k, .int .i64 d.reqs, .int .i64 d.left]
  b2 : Blk w1 (w.heap.size + 1) 27 #[.slice none 0 0, .slice none 0 0, .int .i64 0, .int .i64 0]
  ok : MOk w1 (M.and (w.heap.size + 1))
  below : Below w.heap.size w w1
theorem Pre.new {w : World} {M : Ms} {c k : Value} {d : Dis} (h : Rv w M (.agg #[c, k, .int .i64 d.reqs, .int .i64 d.left]) d) (hM : MOk w M) :
    Pre w M ((w.alloc (.cells #[c, k, .int .i64 d.reqs, .int .i64 d.left] 27)).alloc (.cells #[.slice none 0 0, .slice none 0 0, .int .i64 0, .int .i64 0] 27)) c k d := by
  have hB0 := ((Below.refl w.heap.size w).alloc (Nat.le_refl _) (.cells #[c, k, .int .i64 d.reqs, .int .i64 d.left] 27)).alloc (by simp) (.cells #[.slice none 0 0, .slice none 0 0, .int .i64 0, .int .i64 0] 27)
  have hblk2 := Blk.new (w.alloc (.cells #[c, k, .int .i64 d.reqs, .int .i64 d.left] 27)) 27 #[.slice none 0 0, .slice none 0 0, .int .i64 0, .int .i64 0]
  have hb2 : (w.alloc (.cells #[c, k, .int .i64 d.reqs, .int .i64 d.left] 27)).heap.size = w.heap.size + 1 := by simp
  rw [hb2] at hblk2
  exact ⟨h.mono (Keep.boxed (M := M) hB0 (g := w.heap.size + 1) (by omega)), (Blk.new w 27 _).alloc _, hblk2, MOk.boxed (g := w.heap.size + 1) hM hB0.size hblk2.lt, hB0⟩
theorem Pre.step {w w1 w2 : World} {M : Ms} {c k : Value} {d : Dis} (h : Pre w M w1 c k d) (hB : Below w1.heap.size w1 w2) : Pre w M w2 c k d :=
  ⟨h.rv.below hB, h.b1.below hB, h.b2.below hB, h.ok.below hB.size, h.below.trans (hB.mono h.below.size)⟩
theorem Pre.fin {w w1 : World} {M : Ms} {c k : Value} {d : Dis} (h : Pre w M w1 c k d) (v0 v1 v2 v3 : Value) : Blk (st4 w1 (w.heap.size + 1) v0 v1 v2 v3) (w.heap.size + 1) 27 #[v0, v1, v2, v3] ∧
    Keep w1 (M.and (w.heap.size + 1)) (st4 w1 (w.heap.size + 1) v0 v1 v2 v3) M ∧ Below w.heap.size w (st4 w1 (w.heap.size + 1) v0 v1 v2 v3) :=
  ⟨st4_blk h.b2 v0 v1 v2 v3, st4_keep w1 M (w.heap.size + 1) v0 v1 v2 v3, st4_below h.below (Nat.le_succ _) v0 v1 v2 v3⟩
structure Res (w : World) (M : Ms) (w1 : World) : Prop where
  b2 : Blk w1 (w.heap.size + 1) 27 #[.slice none 0 0, .slice none 0 0, .int .i64 0, .int .i64 0]
  ok : MOk w1 (M.and (w.heap.size + 1))
  below : Below w.heap.size w w1
theorem Pre.res {w w1 w2 : World} {M : Ms} {c k : Value} {d : Dis} (h : Pre w M w1 c k d) (hB : Below w1.heap.size w1 w2) : Res w M w2 := ⟨(h.step hB).b2, (h.step hB).ok, (h.step hB).below⟩
theorem Res.step {w w1 w2 : World} {M : Ms} (h : Res w M w1) {n : Nat} (hB : Below n w1 w2) (hn : w.heap.size + 1 < n) : Res w M w2 :=
  ⟨(hB.block _ hn).trans h.b2, h.ok.below hB.size, h.below.trans (hB.mono (by omega))⟩
theorem Res.fin {w w1 : World} {M : Ms} (h : Res w M w1) (v0 v1 v2 v3 : Value) : Blk (st4 w1 (w.heap.size + 1) v0 v1 v2 v3) (w.heap.size + 1) 27 #[v0, v1, v2, v3] ∧
    Keep w1 (M.and (w.heap.size + 1)) (st4 w1 (w.heap.size + 1) v0 v1 v2 v3) M ∧ Below w.heap.size w (st4 w1 (w.heap.size + 1) v0 v1 v2 v3) :=
  ⟨st4_blk h.b2 v0 v1 v2 v3, st4_keep w1 M (w.heap.size + 1) v0 v1 v2 v3, st4_below h.below (Nat.le_succ _) v0 v1 v2 v3⟩
theorem DrvR.away {w1 w2 : World} {M : Ms} {bd : Nat} {vc vk : Value} {d : Dis} (h : DrvR w2 M w1.heap.size bd vc vk d) (hB : Below w1.heap.size w1 w2) : Keep w1 M w2 (DA M bd vc vk) := fun b hb hm => ⟨by
  rintro (h' | h' | h' | h')
  · exact hm h'
  · have := h.ge; omega
  · have := h.cells.own_ge h'; omega
  · have := h.cache.own_ge h'; omega, hB.block b hb⟩
theorem DrvR.rv {w : World} {M : Ms} {base bd : Nat} {vc vk : Value} {d : Dis} (h : DrvR w M base bd vc vk d) (hM : ∀ b, base ≤ b → ¬ M b) : Rv w M (.agg #[vc, vk, .int .i64 d.reqs, .int .i64 d.left]) d :=
  rv_dis.2 ⟨_, _, rfl, (h.cells.less (fun _ h => .inl h)).sl hM, (h.cache.less (fun _ h => .inl h)).sl hM⟩

set_option maxHeartbeats 4000000 in
theorem twrite_any (v vb : Value) (d : Dis) (a : Int) (b : List UInt8) (w : World) (M : Ms) (h : Rv w M v d) (hb : SlR w M vb b) (hM : MOk w M) (hl : d.cells.length ≤ 1000000000) (hkl : d.cache.length ≤ 1000000000) (hbl : b.length ≤ 1000000000) :
    Calls Try.prog 11 #[v, .int .i64 a, vb] w fun e w' => ∃ r, e = .returned (.tuple #[r, .int .i64 (writeT d a b).2]) ∧ Rv w' M r (writeT d a b).1 ∧ Below w.heap.size w w' := by
  obtain ⟨c, k, rfl, hc, hk⟩ := rv_dis.1 h
  obtain ⟨ac, cc, rfl⟩ := hc.form
  obtain ⟨ak, ck, rfl⟩ := hk.form
  obtain ⟨ab, cb, rfl⟩ := hb.form
  have P := Lib.hid (Pre.new h hM)
  have Hb := Lib.hid (hb.mono (Keep.boxed P.out.below (g := w.heap.size + 1) (by omega)))
  clear h hb hc hk
  go_enter Try.func11, Try.ntmps11
  go_wp2_with fail
  generalize ((w.alloc (.cells #[.slice ac d.cells.length cc, .slice ak d.cache.length ck, .int .i64 d.reqs, .int .i64 d.left] 27)).alloc (.cells #[.slice none 0 0, .slice none 0 0, .int .i64 0, .int .i64 0] 27)) = w0 at *
  refine (check_any _ d w0 _ P.out.rv hl hkl).mono ?_
  rintro e w1 ⟨rfl, hB1⟩
  have Hb1 := Lib.hid (Hb.out.mono (Keep.below hB1))
  have P1 := Lib.hid (P.out.step hB1)
  clear P Hb hB1
  have c1 := P1.out.b1.cell
  obtain ⟨c2, f2, l2⟩ := P1.out.b2.all
  cases hD : disB d
  · have hR := Lib.hid (show writeT d a b = (noD, 1) by simp [writeT, okT, hD])
    rw [chkI_f hD]
    clear hD
    go_wp2
    obtain ⟨x1, x2, x3⟩ := P1.out.fin (.slice none 0 0) (.slice none 0 0) (.int .i64 0) (.int .i64 0)
    have hx := x1.cell
    unfold st4 at hx
    refine bodyPost_ret (v := .tuple #[.agg #[.slice none 0 0, .slice none 0 0, .int .i64 0, .int .i64 0], .int .i64 1]) (by simp [results, Try.results11, go_sem, hx]) rfl ?_
    rw [hR.out]
    exact ⟨_, rfl, rv_noD _ _, x3⟩
  have hin := Lib.hid (in_any a 0 (d.cells.length - 1))
  rw [chkI_t hD]
  cases hA : inB a 0 (d.cells.length - 1)
  · have hR := Lib.hid (show writeT d a b = (noD, 1) by simp [writeT, okT, hD, hA])
    rw [hA] at hin
    clear hD hA
    go_wp2_with (go_at_call 32; refine (hin.out _).mono ?_; rintro e w' ⟨rfl, rfl⟩)
    obtain ⟨x1, x2, x3⟩ := P1.out.fin (.slice none 0 0) (.slice none 0 0) (.int .i64 0) (.int .i64 0)
    have hx := x1.cell
    unfold st4 at hx
    refine bodyPost_ret (v := .tuple #[.agg #[.slice none 0 0, .slice none 0 0, .int .i64 0, .int .i64 0], .int .i64 1]) (by simp [results, Try.results11, go_sem, hx]) rfl ?_
    rw [hR.out]
    exact ⟨_, rfl, rv_noD _ _, x3⟩
  by_cases hL : b.length ≤ 200
  case neg =>
    have hR := Lib.hid (show writeT d a b = (noD, 1) by simp [writeT, hL])
    rw [hA] at hin
    clear hD hA
    have hLi : (200 : Int) < (b.length : Int) := by omega
    go_wp2_with (go_at_call 32; refine (hin.out _).mono ?_; rintro e w' ⟨rfl, rfl⟩)
    obtain ⟨x1, x2, x3⟩ := P1.out.fin (.slice none 0 0) (.slice none 0 0) (.int .i64 0) (.int .i64 0)
    have hx := x1.cell
    unfold st4 at hx
    refine bodyPost_ret (v := .tuple #[.agg #[.slice none 0 0, .slice none 0 0, .int .i64 0, .int .i64 0], .int .i64 1]) (by simp [results, Try.results11, go_sem, hx]) rfl ?_
    rw [hR.out]
    exact ⟨_, rfl, rv_noD _ _, x3⟩
  rw [hA] at hin
  obtain ⟨r1, r2, r3, r4, r5, r6, r7⟩ := disB_rng hD
  have hai : 0 ≤ a ∧ a < d.cells.length := by simp only [inB, Bool.and_eq_true, decide_eq_true_eq] at hA; omega
  have hR := Lib.hid (show writeT d a b = writeD d a.toNat b by simp [writeT, okT, hD, hA, hL])
  obtain ⟨j, rfl⟩ := Int.eq_ofNat_of_zero_le hai.1
  have hj : j < d.cells.length := by omega
  rw [Int.toNat_natCast] at hR
  have hD := Lib.hid hD
  clear hA hai r4
  have hLi : (b.length : Int) ≤ 200 := by omega
  go_wp2_with fail
  refine (hin.out _).mono ?_
  rintro e w1 ⟨rfl, rfl⟩
  go_wp2_with fail
  clear c1 c2 f2 l2
  refine (own_any _ d _ _ P1.out.rv (by omega) (by omega)).mono ?_
  rintro e w2 ⟨bd, vc, vk, rfl, hd2, hB2⟩
  have P2 := Lib.hid (P1.out.step hB2)
  have Hb2 := Lib.hid (Hb1.out.mono (Keep.below hB2))
  have D2 := Lib.hid hd2
  have hMD := Lib.hid (hd2.mok P2.out.ok)
  have hB2 := Lib.hid hB2
  clear hd2
  go_wp2_with fail
  refine (write_any w2 _ _ bd vc vk (.slice ab b.length cb) d j b D2.out hB2.out.size r1 hj (by omega) P2.out.ok (Hb1.out.mono (D2.out.away hB2.out)) (by omega)).mono ?_
  rintro e w3 ⟨rfl, vk3, h3⟩
  obtain ⟨Ac, nc, rfl⟩ := h3.drv.cells.form
  obtain ⟨Ak, nk, rfl⟩ := h3.drv.cache.form
  have P3 := Lib.hid ((P1.out.res hB2.out).step h3.below P1.out.b2.lt)
  have D3 := Lib.hid h3.drv
  have hOK := Lib.hid (OkD.write (okD_iff.1 hD.out) hj hL)
  have c3 := h3.drv.blk.cell
  clear h3 hB2 D2 hMD P2
  generalize writeD d j b = R at *
  obtain ⟨d3, e3⟩ := R
  go_wp2_with fail
  clear c3
  refine (dtwin_any _ d3 w3 _ (D3.out.rv P1.out.ok.new) P3.out.ok hOK.out.sm.1 hOK.out.sm.2.1 hOK.out.sm.2.2.1 hOK.out.sm.2.2.2).mono ?_
  rintro e w4 ⟨r, rfl, hr, hB4⟩
  have P4 := Lib.hid (P3.out.step hB4 (by have := P3.out.b2.lt; omega))
  obtain ⟨c4, k4, rfl, hc4, hk4⟩ := rv_dis.1 hr
  obtain ⟨Ac4, nc4, rfl⟩ := hc4.form
  obtain ⟨Ak4, nk4, rfl⟩ := hk4.form
  have Hr := Lib.hid hr
  obtain ⟨c2, f2, l2⟩ := P4.out.b2.all
  clear hc4 hk4 hr hB4
  go_wp2
  obtain ⟨x1, x2, x3⟩ := P4.out.fin (.slice Ac4 d3.cells.length nc4) (.slice Ak4 d3.cache.length nk4) (.int .i64 d3.reqs) (.int .i64 d3.left)
  have hx := x1.cell
  unfold st4 at hx
  refine bodyPost_ret (v := .tuple #[.agg #[.slice Ac4 d3.cells.length nc4, .slice Ak4 d3.cache.length nk4, .int .i64 d3.reqs, .int .i64 d3.left], .int .i64 e3]) (by simp [results, Try.results11, go_sem, hx]) rfl ?_
  rw [hR.out]
  exact ⟨_, rfl, Hr.out.mono x2, x3⟩
end Go.Proofs.Ytkdjacmabeeceaa
