/-
The law DiskDies: what a disk answers before and after its last request.
-/
import Derived.Test.YtkdjacmabeeceaaVar
namespace Go.Proofs.Ytkdjacmabeeceaa
open Go.RowKit
attribute [local go_sem ↓] Go.wp_at_zero Go.wp_at_succ

/-- A disk of three good cells that has answered i requests of L. -/
def DInv (L : Int) (i : Nat) (d : Dis) : Prop := (OkD d ∧ L < 40) ∧ d.cells.length = 3 ∧ (∀ c ∈ d.cells, c.state = 0) ∧ d.cache.length ≤ i ∧ d.reqs = min (i : Int) L ∧ d.left = L - min (i : Int) L
theorem DInv.start {L : Int} (h0 : 0 ≤ L) (h1 : L < 40) : DInv L 0 ⟨List.replicate 3 ⟨0, [], []⟩, [], 0, L⟩ := by
  refine ⟨⟨⟨⟨by simp, by simp, by simp, by simp, by simp, by show -1 ≤ L; omega, by show L ≤ 1048576; omega⟩, ?_, by simp⟩, h1⟩, rfl, ?_, by simp, by show (0 : Int) = min ((0 : Nat) : Int) L; omega, by show L = L - min ((0 : Nat) : Int) L; omega⟩
  · intro c hc; obtain rfl := List.eq_of_mem_replicate hc; simp
  · intro c hc; obtain rfl := List.eq_of_mem_replicate hc; rfl
theorem DInv.dead {L : Int} {i : Nat} {d : Dis} (h : DInv L i d) (hi : ¬ (i : Int) < L) : DInv L (i + 1) d ∧ d.left = 0 := by
  obtain ⟨a, b, c, e, f, g⟩ := h
  exact ⟨⟨a, b, c, by omega, by omega, by omega⟩, by omega⟩
theorem done_st0 {l : List Cel} {j : Nat} {b : List UInt8} (h : ∀ c ∈ l, c.state = 0) : ∀ c ∈ doneC l j b, c.state = 0 := by
  unfold doneC; split
  · split
    · exact h
    · intro x hx; rcases List.mem_or_eq_of_mem_set hx with hx | rfl
      · exact h x hx
      · rfl
  · exact h
theorem run_st0 {l : List Cel} {ws : List Wri} (h : ∀ c ∈ l, c.state = 0) : ∀ c ∈ runC l ws, c.state = 0 := by
  induction ws generalizing l with
  | nil => exact h
  | cons x t ih => exact ih (done_st0 h)
theorem DInv.live {L : Int} {i : Nat} {d : Dis} (h : DInv L i d) (hi : (i : Int) < L) : d.left ≠ 0 ∧ (reqD d).reqs = i + 1 ∧ (reqD d).left = L - i - 1 ∧ DInv L (i + 1) (reqD d) := by
  obtain ⟨a, b, c, e, f, g⟩ := h
  have hL := a.2
  have hr := a.1.1.2.2.2
  have h1 : (reqD d).left = L - i - 1 := by simp only [reqD]; rw [if_pos (by omega)]; omega
  have h2 : (reqD d).reqs = i + 1 := by
    have hq : d.reqs < 1048576 := by omega
    simp only [reqD]; omega
  exact ⟨by omega, h2, h1, ⟨a.1.req, hL⟩, b, c, by have : (reqD d).cache = d.cache := rfl; rw [this]; omega, by omega, by omega⟩
theorem dies_read {L : Int} {i : Nat} {d : Dis} (h : DInv L i d) (hi : (i : Int) < L) : ∃ s, readT d 1 = (reqD d, s, 0) := by
  obtain ⟨h1, h2, h3, h4⟩ := h.live hi
  have hok : okT d 1 = true := by have hd := okD_iff.2 h.1.1; simp [okT, hd, inB, h.2.1]
  refine ⟨(readV d 1).1, ?_⟩
  have hv : (readV d 1).2 = 0 := by
    unfold readV; rw [if_neg h1]
    cases lastW d.cache 1 with
    | some b => rfl
    | none =>
      have hlt : 1 < d.cells.length := by rw [h.2.1]; omega
      have : d.cells[1].state = 0 := h.2.2.1 _ (List.getElem_mem hlt)
      simp [List.getElem?_eq_getElem hlt, this]
  rw [readT, hok, if_pos rfl, show readD d = reqD d by unfold readD; rw [if_neg h1]]
  exact Prod.ext rfl (Prod.ext rfl hv)
theorem dies_write {L : Int} {i : Nat} {d : Dis} (h : DInv L i d) (hi : (i : Int) < L) (hn : i ≤ 60) (b : List UInt8) (hb : b.length ≤ 200) : ∃ d', writeT d 2 b = (d', 0) ∧ d'.reqs = i + 1 ∧ d'.left = L - i - 1 ∧ DInv L (i + 1) d' := by
  obtain ⟨h1, h2, h3, h4⟩ := h.live hi
  have hlt : 2 < d.cells.length := by rw [h.2.1]; omega
  have hok : (okT d 2 && decide (b.length ≤ 200)) = true := by have hd := okD_iff.2 h.1.1; simp [okT, hd, inB, h.2.1, hb]
  have hst : ¬ d.cells[2].state = 2 := by rw [h.2.2.1 _ (List.getElem_mem hlt)]; omega
  have hw := writeD_0 (b := b) hlt h1 hst (by have := h.2.2.2.1; omega)
  refine ⟨{ reqD d with cache := d.cache ++ [⟨2, b⟩] }, by rw [writeT, hok, if_pos rfl]; exact hw, h2, h3, ?_⟩
  have hO := h.1.1.write (b := b) hlt hb
  rw [hw] at hO
  exact ⟨⟨hO, h4.1.2⟩, h4.2.1, h4.2.2.1, by simp only [List.length_append, List.length_cons, List.length_nil]; have := h.2.2.2.1; omega, h4.2.2.2.2.1, h4.2.2.2.2.2⟩
theorem dies_flush {L : Int} {i : Nat} {d : Dis} (h : DInv L i d) (hi : (i : Int) < L) : ∃ d', flushT d = (d', 0) ∧ d'.reqs = i + 1 ∧ d'.left = L - i - 1 ∧ DInv L (i + 1) d' := by
  obtain ⟨h1, h2, h3, h4⟩ := h.live hi
  have hw : flushT d = ({ reqD d with cells := runC d.cells d.cache, cache := [] }, 0) := by rw [flushT, okD_iff.2 h.1.1, if_pos rfl, flushD, if_neg h1]
  refine ⟨_, hw, h2, h3, ?_⟩
  have hO := h.1.1.flush
  rw [flushD, if_neg h1] at hO
  exact ⟨⟨hO, h4.1.2⟩, by rw [runC_length]; exact h.2.1, run_st0 h.2.2.1, by simp, h4.2.2.2.2.1, h4.2.2.2.2.2⟩
theorem dead_read {d : Dis} (h : OkD d) (hl : d.cells.length = 3) (h0 : d.left = 0) : readT d 1 = (d, [], 8) := by
  have hok : okT d 1 = true := by have hd := okD_iff.2 h; simp [okT, hd, inB, hl]
  rw [readT, hok, if_pos rfl, readD, if_pos h0, readV, if_pos h0]
theorem dead_write {d : Dis} (h : OkD d) (hl : d.cells.length = 3) (h0 : d.left = 0) (b : List UInt8) (hb : b.length ≤ 200) : writeT d 2 b = (d, 8) := by
  have hok : (okT d 2 && decide (b.length ≤ 200)) = true := by have hd := okD_iff.2 h; simp [okT, hd, inB, hl, hb]
  rw [writeT, hok, if_pos rfl, writeD, if_pos h0]
theorem dead_flush {d : Dis} (h : OkD d) (h0 : d.left = 0) : flushT d = (d, 8) := by
  rw [flushT, okD_iff.2 h, if_pos rfl, flushD, if_pos h0]

def ds3 (L : Int) : Dis := ⟨List.replicate 3 ⟨0, [], []⟩, [], 0, L⟩
theorem new3 : newT 3 = (ds3 (-1), 0) := by decide
set_option maxRecDepth 100000 in
set_option maxHeartbeats 1000000 in
theorem dies_any (left : Int) (v : Value) (l : List Int) (w : World) (h : SlR w noM v l) :
    Calls Try.prog 5 #[.int .i64 left, v] w fun e w' => e = .returned (.bool true) ∧ Below w.heap.size w w' := by
  obtain ⟨al, cl, rfl⟩ := h.form
  by_cases h60 : l.length ≤ 60
  case neg =>
    have h60' : (60 : Int) < (l.length : Int) := by omega
    clear h
    go_enter Try.func5, Try.ntmps5
    go_wp2
    go_ret
    exact ⟨rfl, Below.refl _ _⟩
  have h60' : ¬ (60 : Int) < (l.length : Int) := by omega
  have H := Lib.hid h
  clear h
  go_enter Try.func5, Try.ntmps5
  go_wp2_with fail
  refine (tnew_any 3 w noM (fun _ h => h.elim)).mono ?_
  rw [new3]
  rintro e w1 ⟨r1, rfl, hr1, hB1⟩
  obtain ⟨Ac1, nc1, Ak1, nk1, rfl⟩ := dis_form hr1
  have hrL : Rv w1 noM (.agg #[.slice Ac1 (ds3 (-1)).cells.length nc1, .slice Ak1 (ds3 (-1)).cache.length nk1, .int .i64 (ds3 (-1)).reqs, .int .i64 (wrap64 ((IntKind.u64.wrap left).tmod 40))]) (ds3 (wrap64 ((IntKind.u64.wrap left).tmod 40))) := rv_dis.2 ⟨_, _, rfl, (rv_agg hr1).1, (rv_agg hr1).2⟩
  have V1 := Lib.hid (VarD.new (d := ds3 (wrap64 ((IntKind.u64.wrap left).tmod 40))) hrL (fun _ h => h.elim))
  have hb1 := Lib.hid (hB1.alloc hB1.size (.cells #[.slice Ac1 (ds3 (-1)).cells.length nc1, .slice Ak1 (ds3 (-1)).cache.length nk1, .int .i64 (ds3 (-1)).reqs, .int .i64 (wrap64 ((IntKind.u64.wrap left).tmod 40))] 27))
  have hge := Lib.hid hB1.size
  have H1 := Lib.hid (H.out.mono (Keep.below hB1))
  have H2 := Lib.hid (H1.out.mono (Keep.boxed ((Below.refl w1.heap.size w1).alloc (Nat.le_refl _) (.cells #[.slice Ac1 (ds3 (-1)).cells.length nc1, .slice Ak1 (ds3 (-1)).cache.length nk1, .int .i64 (ds3 (-1)).reqs, .int .i64 (wrap64 ((IntKind.u64.wrap left).tmod 40))] 27)) (Nat.le_refl _)))
  have hLr : 0 ≤ wrap64 ((IntKind.u64.wrap left).tmod 40) ∧ wrap64 ((IntKind.u64.wrap left).tmod 40) < 40 := by
    have h0 : 0 ≤ IntKind.u64.wrap left := by rw [IntKind.wrap_u64]; omega
    rw [Int.tmod_eq_emod_of_nonneg h0]
    unfold wrap64
    omega
  clear hr1 hrL hB1 H H1
  go_wp2
  generalize wrap64 ((IntKind.u64.wrap left).tmod 40) = L at *
  have hI := Lib.hid (DInv.start hLr.1 hLr.2)
  go_loopw [7] (fun i wr => ∃ k : Nat, k ≤ l.length ∧ i = .int .i64 k ∧ Hid (∃ d c' k', DInv L k d ∧ VarD wr (noM.and w1.heap.size) w1.heap.size c' k' d ∧ SlR wr (noM.and w1.heap.size) (.slice al l.length cl) l ∧ Below w.heap.size w wr)) (fun i _ => l.length - (intOf i).toNat)
  case atStart => exact ⟨0, Nat.zero_le _, rfl, Lib.hid ⟨_, _, _, hI.out, V1.out, H2.out, hb1.out⟩⟩
  case round =>
    clear V1 H2 hI hb1
    obtain ⟨i, hi, rfl, HS⟩ := hrel
    obtain ⟨d, c, k, hI, hV, hsl, hB⟩ := HS.out
    clear HS
    by_cases hlt : i < l.length
    · obtain ⟨bl, ol, rfl, -, xl⟩ := int_at hsl hlt
      have c1 := hV.blk.cell
      have hI' := Lib.hid hI
      have hV' := Lib.hid hV
      have hS' := Lib.hid hsl
      have hBw := Lib.hid hB
      clear hI hV hsl hB xl
      go_wp2_with fail
      clear c1
      refine (ktwin_any _ d wr _ hV'.out.rv hV'.out.ok hI'.out.1.1.sm).mono ?_
      rintro e w2 ⟨r2, rfl, hr2, hB2⟩
      obtain ⟨Ac2, nc2, Ak2, nk2, rfl⟩ := dis_form hr2
      have hA2 := hB2.alloc hB2.size (.cells #[.slice Ac2 d.cells.length nc2, .slice Ak2 d.cache.length nk2, .int .i64 d.reqs, .int .i64 d.left] 27)
      have hA2' := (Below.refl w2.heap.size w2).alloc (Nat.le_refl _) (.cells #[.slice Ac2 d.cells.length nc2, .slice Ak2 d.cache.length nk2, .int .i64 d.reqs, .int .i64 d.left] 27)
      have V3 := Lib.hid (hV'.out.below hA2)
      have hx3 := Lib.hid (Blk.new w2 27 #[.slice Ac2 d.cells.length nc2, .slice Ak2 d.cache.length nk2, .int .i64 d.reqs, .int .i64 d.left])
      have hr23 := Lib.hid (hr2.below hA2')
      have hW3 := Lib.hid (hBw.out.trans (hA2.mono hBw.out.size))
      have S3 := Lib.hid (hS'.out.mono (Keep.below hA2))
      have hlt12 : w1.heap.size < w2.heap.size := Nat.lt_of_lt_of_le hV'.out.blk.lt hB2.size
      clear hr2 hB2 hA2 hA2' hV' hS' hBw
      obtain ⟨bl', ol', el, -, xl⟩ := int_at S3.out hlt
      simp only [Option.some.injEq, Addr.mk.injEq, and_true] at el
      obtain ⟨rfl, rfl⟩ := el
      have c3 := V3.out.blk.cell
      have hw3 := Lib.hid (show (w2.alloc (.cells #[.slice Ac2 d.cells.length nc2, .slice Ak2 d.cache.length nk2, .int .i64 d.reqs, .int .i64 d.left] 27)).heap.size = w2.heap.size + 1 by simp)
      go_wp2_with fail
      all_goals generalize (w2.alloc (.cells #[.slice Ac2 d.cells.length nc2, .slice Ak2 d.cache.length nk2, .int .i64 d.reqs, .int .i64 d.left] 27)) = w3 at *
      all_goals clear xl c3
      all_goals have hsm := Lib.hid hI'.out.1.1.sm
      all_goals have hsm1 : d.cells.length ≤ 1000000000 := hsm.out.1
      all_goals have hsm2 : d.cache.length ≤ 1000000000 := hsm.out.2.1
      · have hS3 := S3
        by_cases hiL : (i : Int) < L
        · obtain ⟨s, hRd⟩ := dies_read hI'.out hiL
          obtain ⟨-, hq, hl', hI2⟩ := hI'.out.live hiL
          have hI2 := Lib.hid hI2
          refine (tread_any _ d 1 w3 _ V3.out.rv V3.out.ok (by omega) (by omega)).mono ?_
          rw [hRd]
          rintro e w4 ⟨r4, s4, rfl, hr4, -, hB4⟩
          obtain ⟨Ac4, nc4, Ak4, nk4, rfl⟩ := dis_form hr4
          have V4 := Lib.hid (V3.out.below hB4)
          have X4 := Lib.hid (V4.out.set hr4).1
          have K4 := Lib.hid (V4.out.set hr4).2
          have S4 := Lib.hid ((S3.out.mono (Keep.below hB4)).mono K4.out)
          have W4 := Lib.hid (hW3.out.trans (hB4.mono hW3.out.size))
          have R4 := Lib.hid ((hr23.out.below hB4).mono K4.out)
          have y4 := (hx3.out.below hB4).cell
          obtain ⟨c4, f4, l4⟩ := V4.out.blk.all
          clear hr4 hB4
          clear hRd
          have W5 := Lib.hid (st4_below W4.out hge.out (.slice Ac4 (reqD d).cells.length nc4) (.slice Ak4 (reqD d).cache.length nk4) (.int .i64 (reqD d).reqs) (.int .i64 (reqD d).left))
          unfold st4 at X4 S4 W5
          rw [hq, hl'] at X4 S4 W5
          clear R4 y4
          go_wp2
          go_roundw
          case rel => exact ⟨i + 1, by omega, by go_num, Lib.hid ⟨_, _, _, hI2.out, X4.out, S4.out, W5.out⟩⟩
          case measure => simp [intOf]; omega
        · obtain ⟨hI2, h00⟩ := hI'.out.dead hiL
          have hI2 := Lib.hid hI2
          have hD0 := dead_read hI'.out.1.1 hI'.out.2.1 h00
          refine (tread_any _ d 1 w3 _ V3.out.rv V3.out.ok (by omega) (by omega)).mono ?_
          rw [hD0]
          rintro e w4 ⟨r4, s4, rfl, hr4, -, hB4⟩
          obtain ⟨Ac4, nc4, Ak4, nk4, rfl⟩ := dis_form hr4
          have V4 := Lib.hid (V3.out.below hB4)
          have X4 := Lib.hid (V4.out.set hr4).1
          have K4 := Lib.hid (V4.out.set hr4).2
          have S4 := Lib.hid ((S3.out.mono (Keep.below hB4)).mono K4.out)
          have W4 := Lib.hid (hW3.out.trans (hB4.mono hW3.out.size))
          have R4 := Lib.hid ((hr23.out.below hB4).mono K4.out)
          have y4 := (hx3.out.below hB4).cell
          obtain ⟨c4, f4, l4⟩ := V4.out.blk.all
          clear hr4 hB4
          clear hD0 h00
          have W5 := Lib.hid (st4_below W4.out hge.out (.slice Ac4 d.cells.length nc4) (.slice Ak4 d.cache.length nk4) (.int .i64 d.reqs) (.int .i64 d.left))
          unfold st4 at X4 S4 R4 W5
          go_wp2_with (go_at_call 20; refine (disk_any _ _ d d _ _ _ X4.out.rv R4.out hI'.out.1.1.sm).mono ?_; rw [show decide (d = d) = true by simp]; rintro e w6 ⟨rfl, hB6⟩)
          go_roundw
          case rel => exact ⟨i + 1, by omega, by go_num, Lib.hid ⟨_, _, _, hI2.out, X4.out.below hB6, S4.out.mono (Keep.below hB6), W5.out.trans (hB6.mono W5.out.size)⟩⟩
          case measure => simp [intOf]; omega
      · have hBr := (Below.refl w3.heap.size w3).alloc (Nat.le_refl _) (.cells #[Value.int .u8 i] 5)
        have hxr := Blk.new w3 5 #[Value.int .u8 i]
        rw [hw3.out] at hxr
        have hvr := SlR.one (α := UInt8) (M := noM.and w1.heap.size) (cs := [.int .u8 i]) (x := UInt8.ofNat i) hxr (by show [Value.int .u8 i] = [Value.int .u8 ((UInt8.ofNat i).toNat : Int)]; rw [UInt8.toNat_ofNat_of_lt' (show i < 256 by omega)]) (fun h => h.elim (fun h => h) (fun e => by omega))
        have hvr := Lib.hid hvr
        have V3 := Lib.hid (V3.out.below hBr)
        have hW3 := Lib.hid (hW3.out.trans (hBr.mono hW3.out.size))
        have S3 := Lib.hid (S3.out.mono (Keep.below hBr))
        have hr23 := Lib.hid (hr23.out.below hBr)
        have hx3 := Lib.hid (hx3.out.below hBr)
        clear hBr hxr
        have hS3 := S3
        by_cases hiL : (i : Int) < L
        · obtain ⟨d2, hRd, hq, hl', hI2⟩ := dies_write hI'.out hiL (by omega) [UInt8.ofNat i] (by simp)
          have hI2 := Lib.hid hI2
          refine (twrite_any _ _ d 2 [UInt8.ofNat i] _ _ V3.out.rv hvr.out V3.out.ok (by omega) (by omega) (by simp)).mono ?_
          rw [hRd]
          rintro e w4 ⟨r4, rfl, hr4, hB4⟩
          obtain ⟨Ac4, nc4, Ak4, nk4, rfl⟩ := dis_form hr4
          have V4 := Lib.hid (V3.out.below hB4)
          have X4 := Lib.hid (V4.out.set hr4).1
          have K4 := Lib.hid (V4.out.set hr4).2
          have S4 := Lib.hid ((S3.out.mono (Keep.below hB4)).mono K4.out)
          have W4 := Lib.hid (hW3.out.trans (hB4.mono hW3.out.size))
          have R4 := Lib.hid ((hr23.out.below hB4).mono K4.out)
          have y4 := (hx3.out.below hB4).cell
          obtain ⟨c4, f4, l4⟩ := V4.out.blk.all
          clear hr4 hB4
          clear hRd
          have W5 := Lib.hid (st4_below W4.out hge.out (.slice Ac4 (d2).cells.length nc4) (.slice Ak4 (d2).cache.length nk4) (.int .i64 (d2).reqs) (.int .i64 (d2).left))
          unfold st4 at X4 S4 W5
          rw [hq, hl'] at X4 S4 W5
          clear R4 y4
          go_wp2
          go_roundw
          case rel => exact ⟨i + 1, by omega, by go_num, Lib.hid ⟨_, _, _, hI2.out, X4.out, S4.out, W5.out⟩⟩
          case measure => simp [intOf]; omega
        · obtain ⟨hI2, h00⟩ := hI'.out.dead hiL
          have hI2 := Lib.hid hI2
          have hD0 := dead_write hI'.out.1.1 hI'.out.2.1 h00 [UInt8.ofNat i] (by simp)
          refine (twrite_any _ _ d 2 [UInt8.ofNat i] _ _ V3.out.rv hvr.out V3.out.ok (by omega) (by omega) (by simp)).mono ?_
          rw [hD0]
          rintro e w4 ⟨r4, rfl, hr4, hB4⟩
          obtain ⟨Ac4, nc4, Ak4, nk4, rfl⟩ := dis_form hr4
          have V4 := Lib.hid (V3.out.below hB4)
          have X4 := Lib.hid (V4.out.set hr4).1
          have K4 := Lib.hid (V4.out.set hr4).2
          have S4 := Lib.hid ((S3.out.mono (Keep.below hB4)).mono K4.out)
          have W4 := Lib.hid (hW3.out.trans (hB4.mono hW3.out.size))
          have R4 := Lib.hid ((hr23.out.below hB4).mono K4.out)
          have y4 := (hx3.out.below hB4).cell
          obtain ⟨c4, f4, l4⟩ := V4.out.blk.all
          clear hr4 hB4
          clear hD0 h00
          have W5 := Lib.hid (st4_below W4.out hge.out (.slice Ac4 d.cells.length nc4) (.slice Ak4 d.cache.length nk4) (.int .i64 d.reqs) (.int .i64 d.left))
          unfold st4 at X4 S4 R4 W5
          go_wp2_with (go_at_call 20; refine (disk_any _ _ d d _ _ _ X4.out.rv R4.out hI'.out.1.1.sm).mono ?_; rw [show decide (d = d) = true by simp]; rintro e w6 ⟨rfl, hB6⟩)
          go_roundw
          case rel => exact ⟨i + 1, by omega, by go_num, Lib.hid ⟨_, _, _, hI2.out, X4.out.below hB6, S4.out.mono (Keep.below hB6), W5.out.trans (hB6.mono W5.out.size)⟩⟩
          case measure => simp [intOf]; omega
      · have hS3 := S3
        by_cases hiL : (i : Int) < L
        · obtain ⟨d2, hRd, hq, hl', hI2⟩ := dies_flush hI'.out hiL
          have hI2 := Lib.hid hI2
          refine (tflush_any _ d w3 _ V3.out.rv V3.out.ok (by omega) (by omega)).mono ?_
          rw [hRd]
          rintro e w4 ⟨r4, rfl, hr4, hB4⟩
          obtain ⟨Ac4, nc4, Ak4, nk4, rfl⟩ := dis_form hr4
          have V4 := Lib.hid (V3.out.below hB4)
          have X4 := Lib.hid (V4.out.set hr4).1
          have K4 := Lib.hid (V4.out.set hr4).2
          have S4 := Lib.hid ((S3.out.mono (Keep.below hB4)).mono K4.out)
          have W4 := Lib.hid (hW3.out.trans (hB4.mono hW3.out.size))
          have R4 := Lib.hid ((hr23.out.below hB4).mono K4.out)
          have y4 := (hx3.out.below hB4).cell
          obtain ⟨c4, f4, l4⟩ := V4.out.blk.all
          clear hr4 hB4
          clear hRd
          have W5 := Lib.hid (st4_below W4.out hge.out (.slice Ac4 (d2).cells.length nc4) (.slice Ak4 (d2).cache.length nk4) (.int .i64 (d2).reqs) (.int .i64 (d2).left))
          unfold st4 at X4 S4 W5
          rw [hq, hl'] at X4 S4 W5
          clear R4 y4
          go_wp2
          go_roundw
          case rel => exact ⟨i + 1, by omega, by go_num, Lib.hid ⟨_, _, _, hI2.out, X4.out, S4.out, W5.out⟩⟩
          case measure => simp [intOf]; omega
        · obtain ⟨hI2, h00⟩ := hI'.out.dead hiL
          have hI2 := Lib.hid hI2
          have hD0 := dead_flush hI'.out.1.1 h00
          refine (tflush_any _ d w3 _ V3.out.rv V3.out.ok (by omega) (by omega)).mono ?_
          rw [hD0]
          rintro e w4 ⟨r4, rfl, hr4, hB4⟩
          obtain ⟨Ac4, nc4, Ak4, nk4, rfl⟩ := dis_form hr4
          have V4 := Lib.hid (V3.out.below hB4)
          have X4 := Lib.hid (V4.out.set hr4).1
          have K4 := Lib.hid (V4.out.set hr4).2
          have S4 := Lib.hid ((S3.out.mono (Keep.below hB4)).mono K4.out)
          have W4 := Lib.hid (hW3.out.trans (hB4.mono hW3.out.size))
          have R4 := Lib.hid ((hr23.out.below hB4).mono K4.out)
          have y4 := (hx3.out.below hB4).cell
          obtain ⟨c4, f4, l4⟩ := V4.out.blk.all
          clear hr4 hB4
          clear hD0 h00
          have W5 := Lib.hid (st4_below W4.out hge.out (.slice Ac4 d.cells.length nc4) (.slice Ak4 d.cache.length nk4) (.int .i64 d.reqs) (.int .i64 d.left))
          unfold st4 at X4 S4 R4 W5
          go_wp2_with (go_at_call 20; refine (disk_any _ _ d d _ _ _ X4.out.rv R4.out hI'.out.1.1.sm).mono ?_; rw [show decide (d = d) = true by simp]; rintro e w6 ⟨rfl, hB6⟩)
          go_roundw
          case rel => exact ⟨i + 1, by omega, by go_num, Lib.hid ⟨_, _, _, hI2.out, X4.out.below hB6, S4.out.mono (Keep.below hB6), W5.out.trans (hB6.mono W5.out.size)⟩⟩
          case measure => simp [intOf]; omega
    · obtain rfl : i = l.length := by omega
      have hBw := Lib.hid hB
      clear hI hV hsl hB
      go_wp2_with (go_at_call 18; refine (wakes_any _).mono ?_; rintro e w9 ⟨rfl, hB9⟩)
      go_ret
      exact ⟨rfl, hBw.out.trans (hB9.mono hBw.out.size)⟩
end Go.Proofs.Ytkdjacmabeeceaa
