/-
The reference's disk: Flush, Crash.
-/
import Derived.Test.YtkdjacmabeeceaaRDone
namespace Go.Proofs.Ytkdjacmabeeceaa
open Go.RowKit
attribute [local go_sem ↓] Go.wp_at_zero Go.wp_at_succ

set_option maxHeartbeats 4000000 in
theorem rflush_any (w : World) (M : Ms) (base bd : Nat) (vc vk : Value) (d : Dis) (h : RfR w M base bd vc vk d) (hbase : base ≤ w.heap.size) (hM : MOk w M) (hO : OkD d) :
    Calls Try.prog 29 #[.pointer (some ⟨bd, 0, none⟩)] w fun e w' => e = .returned (.int .i64 (flushD d).2) ∧ ∃ vk', RStep w M base bd vc vk w' vc vk' (flushD d).1 := by
  by_cases hl : d.left = 0
  · have hq := Lib.hid (rreq_dead w M base bd vc vk d h hl)
    have hw : flushD d = (d, 8) := by simp [flushD, hl]
    rw [hw]
    have H := Lib.hid h
    clear h hl hw
    go_enter Try.func29, Try.ntmps29
    go_wp2_with fail
    refine hq.out.mono ?_
    rintro e w1 ⟨rfl, rfl⟩
    go_wp2
    go_ret
    exact ⟨rfl, vk, H.out.same⟩
  have hr := hO.1.2.2.2
  have hq := Lib.hid (rreq_any w M base bd vc vk d h hbase hl hr.1 hr.2.1 hr.2.2.1 hr.2.2.2)
  have hw : flushD d = ({ reqD d with cells := runC d.cells d.cache, cache := [] }, 0) := by simp [flushD, hl]
  rw [hw]
  obtain ⟨a, c, rfl⟩ := h.cache.form
  have H := Lib.hid h
  have HO := Lib.hid hO
  have hM' := Lib.hid hM
  have hbs := Lib.hid hbase
  have hkl : d.cache.length ≤ 2000 := HO.out.1.2.2.1
  clear h hl hw hr hO hM hbase
  go_enter Try.func29, Try.ntmps29
  go_wp2_with fail
  refine hq.out.mono ?_
  rintro e w1 ⟨rfl, h1, -⟩
  obtain ⟨c1, f1, l1⟩ := h1.drv.blk.all
  have c1' : ∀ i, w1.cell? ⟨bd, i, none⟩ = #[vc, .slice a d.cache.length c, .int .i64 (reqD d).reqs, .int .i64 (reqD d).left][i]? := c1
  have H1 := Lib.hid h1
  clear c1 h1
  go_wp2
  clear c1' f1 l1
  go_loopw [3] (fun i wr => ∃ k : Nat, k ≤ d.cache.length ∧ i = .int .i64 k ∧ Hid (RStep w M base bd vc (.slice a d.cache.length c) wr vc (.slice a d.cache.length c) (runD d k))) (fun i _ => d.cache.length - (intOf i).toNat)
  case atStart => exact ⟨0, Nat.zero_le _, rfl, H1⟩
  case round =>
    obtain ⟨k, hk, rfl, HS⟩ := hrel
    obtain ⟨c2, f2, l2⟩ := HS.out.drv.blk.all
    have c2' : ∀ i, wr.cell? ⟨bd, i, none⟩ = #[vc, .slice a d.cache.length c, .int .i64 (reqD d).reqs, .int .i64 (reqD d).left][i]? := c2
    clear c2
    by_cases hlt : k < d.cache.length
    · obtain ⟨g, cc, vb, hvv, hg, e0, e1, r1⟩ := wriO_at HS.out.drv.cache hlt
      have hvv : Value.slice a d.cache.length c = .slice (some ⟨g, 0, none⟩) d.cache.length cc := hvv
      simp only [Value.slice.injEq, true_and] at hvv
      obtain ⟨rfl, rfl⟩ := hvv
      have e0' : wr.cell? ⟨g, k * 2, none⟩ = some (.int .i64 d.cache[k].addr) := e0
      obtain ⟨ab, cb, rfl⟩ := r1.form
      have e1' : wr.cell? ⟨g, k * 2 + 1, none⟩ = some (.slice ab d.cache[k].bytes.length cb) := e1
      have hwk := HO.out.2.2 d.cache[k] (List.getElem_mem hlt)
      have hbk := Lib.hid hwk.2.2
      obtain ⟨j, hj⟩ : ∃ j : Nat, d.cache[k].addr = j := ⟨_, (Int.toNat_of_nonneg hwk.1).symm⟩
      rw [hj] at e0' hwk
      have hjl : j < (runD d k).cells.length := by rw [runD, runC_length]; omega
      have hrun : runD d (k + 1) = { runD d k with cells := doneC (runD d k).cells j d.cache[k].bytes } := by
        simp only [runD]; rw [runC_succ _ _ _ hlt, hj]; rfl
      have Hrun := Lib.hid hrun
      have R2 := Lib.hid (r1.mono (Keep.less (M' := DA M bd vc (.slice (some ⟨g, 0, none⟩) d.cache.length c)) (fun x hx => DA.of' hx)))
      have hjl := Lib.hid hjl
      clear e0 e1 hj hwk r1 hrun
      go_wp2_with fail
      clear c2' f2 l2 e0' e1'
      refine (rdone_any _ M base bd vc _ _ (runD d k) j d.cache[k].bytes HS.out.drv (Nat.le_trans hbs.out HS.out.below.size) (hM'.out.below HS.out.below.size) hjl.out R2.out (Nat.le_trans hbk.out (by omega))).mono ?_
      rintro e w2 ⟨rfl, h3⟩
      have H3 := Lib.hid (HS.out.trans h3)
      clear h3
      go_wp2
      go_roundw
      case rel => exact ⟨k + 1, by omega, by go_num, by rw [Hrun.out]; exact H3⟩
      case measure => simp [intOf]; omega
    · obtain rfl : k = d.cache.length := by omega
      go_wp2
      go_ret
      refine ⟨rfl, .slice none 0 0, ?_⟩
      have h2 := HS.out.trans (HS.out.drv.noCache)
      rw [runD, List.take_length] at h2
      exact h2

set_option maxHeartbeats 4000000 in
theorem rcrash_any (w : World) (M : Ms) (base bd : Nat) (vc vk : Value) (d : Dis) (keep : Int) (h : RfR w M base bd vc vk d) (hbase : base ≤ w.heap.size) (hM : MOk w M) (hO : OkD d) :
    Calls Try.prog 30 #[.pointer (some ⟨bd, 0, none⟩), .int .i64 keep] w fun e w' => e = .returned (.tuple #[]) ∧ ∃ vk', RStep w M base bd vc vk w' vc vk' (crashD d keep) := by
  obtain ⟨a, c, rfl⟩ := h.cache.form
  have H := Lib.hid h
  have HO := Lib.hid hO
  have hM' := Lib.hid hM
  have hbs := Lib.hid hbase
  have H1 := Lib.hid (show RStep w M base bd vc (.slice a d.cache.length c) w vc (.slice a d.cache.length c) (kD d keep 0) from h.same)
  have hkl : d.cache.length ≤ 2000 := HO.out.1.2.2.1
  clear h hO hM hbase
  go_enter Try.func30, Try.ntmps30
  go_wp2
  go_loopw [4] (fun i wr => ∃ k : Nat, k ≤ d.cache.length ∧ i = .int .i64 k ∧ Hid (RStep w M base bd vc (.slice a d.cache.length c) wr vc (.slice a d.cache.length c) (kD d keep k))) (fun i _ => d.cache.length - (intOf i).toNat)
  case atStart => exact ⟨0, Nat.zero_le _, rfl, H1⟩
  case round =>
    clear H1
    obtain ⟨k, hk, rfl, HS⟩ := hrel
    obtain ⟨c2, f2, l2⟩ := HS.out.drv.blk.all
    have c2' : ∀ i, wr.cell? ⟨bd, i, none⟩ = #[vc, .slice a d.cache.length c, .int .i64 d.reqs, .int .i64 d.left][i]? := c2
    clear c2
    by_cases hlt : k < d.cache.length
    · obtain ⟨g, cc, vb, hvv, hg, e0, e1, r1⟩ := wriO_at HS.out.drv.cache hlt
      have hvv : Value.slice a d.cache.length c = .slice (some ⟨g, 0, none⟩) d.cache.length cc := hvv
      simp only [Value.slice.injEq, true_and] at hvv
      obtain ⟨rfl, rfl⟩ := hvv
      have e0' : wr.cell? ⟨g, k * 2, none⟩ = some (.int .i64 d.cache[k].addr) := e0
      obtain ⟨ab, cb, rfl⟩ := r1.form
      have e1' : wr.cell? ⟨g, k * 2 + 1, none⟩ = some (.slice ab d.cache[k].bytes.length cb) := e1
      have hwk := HO.out.2.2 d.cache[k] (List.getElem_mem hlt)
      have hbk := Lib.hid hwk.2.2
      obtain ⟨j, hj⟩ : ∃ j : Nat, d.cache[k].addr = j := ⟨_, (Int.toNat_of_nonneg hwk.1).symm⟩
      rw [hj] at e0' hwk
      have hjl := Lib.hid (show j < (kD d keep k).cells.length by rw [kD, runK_length]; omega)
      have Hj := Lib.hid hj
      have hrun1 : sel keep k = true → kD d keep (k + 1) = { kD d keep k with cells := doneC (kD d keep k).cells j d.cache[k].bytes } := by
        intro hs; simp only [kD, runK, List.getElem?_eq_getElem hlt, hs, if_true, Hj.out]; rfl
      have hrun0 : sel keep k = false → kD d keep (k + 1) = kD d keep k := by
        intro hs; simp [kD, runK, List.getElem?_eq_getElem hlt, hs]
      have Hr1 := Lib.hid hrun1
      have Hr0 := Lib.hid hrun0
      have R2 := Lib.hid (r1.mono (Keep.less (M' := DA M bd vc (.slice (some ⟨g, 0, none⟩) d.cache.length c)) (fun x hx => DA.of' hx)))
      clear e0 e1 hj hwk r1 hrun1 hrun0
      cases hsel : sel keep k
      · have hsel' : (bits .and .i64 (keep / 2 ^ (k % 31)) 1 == 1) = false := hsel
        have hE := Lib.hid (Hr0.out hsel)
        clear hsel
        go_wp2
        go_roundw
        case rel => exact ⟨k + 1, by omega, by go_num, by rw [hE.out]; exact HS⟩
        case measure => simp [intOf]; omega
      · have hsel' : (bits .and .i64 (keep / 2 ^ (k % 31)) 1 == 1) = true := hsel
        have hE := Lib.hid (Hr1.out hsel)
        clear hsel
        go_wp2_with fail
        clear c2' f2 l2 e0' e1'
        refine (rdone_any _ M base bd vc _ _ (kD d keep k) j d.cache[k].bytes HS.out.drv (Nat.le_trans hbs.out HS.out.below.size) (hM'.out.below HS.out.below.size) hjl.out R2.out (Nat.le_trans hbk.out (by omega))).mono ?_
        rintro e w2 ⟨rfl, h3⟩
        have H3 := Lib.hid (HS.out.trans h3)
        clear h3
        go_wp2
        go_roundw
        case rel => exact ⟨k + 1, by omega, by go_num, by rw [hE.out]; exact H3⟩
        case measure => simp [intOf]; omega
    · obtain rfl : k = d.cache.length := by omega
      go_wp2
      go_end0
      have h3 := HS.out.trans HS.out.drv.noCache
      have h4 := h3.trans (h3.drv.head (grownBy_set _ bd 3 (.int .i64 (-1))) (h3.drv.blk.set_ 3 (.int .i64 (-1))) (Nat.le_trans hbs.out h3.below.size))
      exact ⟨rfl, .slice none 0 0, h4⟩
end Go.Proofs.Ytkdjacmabeeceaa
