/-
The contract of a drive's method Flush.
-/
import Derived.Test.YtkdjacmabeeceaaDone
namespace Go.Proofs.Ytkdjacmabeeceaa
open Go.RowKit
attribute [local go_sem ↓] Go.wp_at_zero Go.wp_at_succ

theorem doneC_length (l : List Cel) (j : Nat) (b : List UInt8) : (doneC l j b).length = l.length := by
  unfold doneC; split
  · split <;> simp
  · rfl
/-- The first k writes carried out. -/
def runC (l : List Cel) (ws : List Wri) : List Cel := ws.foldl (fun l x => doneC l x.addr.toNat x.bytes) l
theorem runC_length (l : List Cel) (ws : List Wri) : (runC l ws).length = l.length := by
  induction ws generalizing l with
  | nil => rfl
  | cons x t ih => simp only [runC, List.foldl_cons] at ih ⊢; rw [ih, doneC_length]
theorem runC_succ (l : List Cel) (ws : List Wri) (k : Nat) (hk : k < ws.length) : runC l (ws.take (k + 1)) = doneC (runC l (ws.take k)) ws[k].addr.toNat ws[k].bytes := by
  simp only [runC, List.take_add_one, List.getElem?_eq_getElem hk, Option.toList_some, List.foldl_append, List.foldl_cons, List.foldl_nil]
def runD (d : Dis) (k : Nat) : Dis := { reqD d with cells := runC d.cells (d.cache.take k) }
def flushD (d : Dis) : Dis × Int := if d.left = 0 then (d, 8) else ({ reqD d with cells := runC d.cells d.cache, cache := [] }, 0)
def wriR (d : Dis) : Prop := ∀ x ∈ d.cache, 0 ≤ x.addr ∧ x.addr < d.cells.length

/-- The cache let go. -/
theorem DrvR.noCache {w : World} {M : Ms} {base bd : Nat} {vc vk : Value} {d : Dis} (h : DrvR w M base bd vc vk d) :
    DStep w M base bd vc vk (w.setCell ⟨bd, 1, none⟩ (.slice none 0 0)) vc (.slice none 0 0) { d with cache := [] } := by
  have hg := grownBy_set w bd 1 (.slice none 0 0)
  refine ⟨⟨h.ge, h.blk.set_ 1 _, (h.cells.kept hg (.inr (h.cells.ne_ h.blk (by decide))) (fun b e => .inr (.inl (by cases e; rfl)))).less ?_, OwR.nil _ _ _ _⟩, (Below.refl _ _).setCell h.ge _, fun b hb hm => ⟨?_, hg.block b hb (fun e => hm (.inr (.inl (by cases e; rfl))))⟩⟩
  · rintro b (h' | h' | h')
    · exact .inl h'
    · exact .inr (.inl h')
    · cases h'
  · rintro (h' | h' | h' | h')
    · exact hm (.inl h')
    · exact hm (.inr (.inl h'))
    · exact hm (.inr (.inr (.inl h')))
    · cases h'

theorem DA.of' {M : Ms} {bd : Nat} {vc vk : Value} {x : Nat} (h : DA M bd vc vk x) : DM M bd vc x ∨ vk.ownBlock = some x := by
  rcases h with h | h | h | h
  · exact .inl (.inl h)
  · exact .inl (.inr (.inl h))
  · exact .inl (.inr (.inr h))
  · exact .inr h
set_option maxHeartbeats 2000000 in
theorem flush_any (w : World) (M : Ms) (base bd : Nat) (vc vk : Value) (d : Dis) (h : DrvR w M base bd vc vk d) (hbase : base ≤ w.heap.size) (hr : rngB d) (hwr : wriR d) (hkl : d.cache.length ≤ 1000000) :
    Calls Try.prog 36 #[.pointer (some ⟨bd, 0, none⟩)] w fun e w' => e = .returned (.int .i64 (flushD d).2) ∧ ∃ vk', DStep w M base bd vc vk w' vc vk' (flushD d).1 := by
  by_cases hl : d.left = 0
  · have hq := Lib.hid (request_dead w M base bd vc vk d h hl)
    have hw : flushD d = (d, 8) := by simp [flushD, hl]
    rw [hw]
    have H := Lib.hid h
    clear h hl hw
    go_enter Try.func36, Try.ntmps36
    go_wp2_with fail
    refine hq.out.mono ?_
    rintro e w1 ⟨rfl, rfl⟩
    go_wp2
    go_ret
    exact ⟨rfl, vk, H.out.same⟩
  have hq := Lib.hid (request_any w M base bd vc vk d h hbase hl hr.1 hr.2.1 hr.2.2.1 hr.2.2.2)
  have hw : flushD d = ({ reqD d with cells := runC d.cells d.cache, cache := [] }, 0) := by simp [flushD, hl]
  rw [hw]
  obtain ⟨a, c, rfl⟩ := h.cache.form
  have H := Lib.hid h
  clear h hl hw
  go_enter Try.func36, Try.ntmps36
  go_wp2_with fail
  refine hq.out.mono ?_
  rintro e w1 ⟨rfl, h1, -⟩
  obtain ⟨c1, f1, l1⟩ := h1.drv.blk.all
  have c1' : ∀ i, w1.cell? ⟨bd, i, none⟩ = #[vc, .slice a d.cache.length c, .int .i64 (reqD d).reqs, .int .i64 (reqD d).left][i]? := c1
  have H1 := Lib.hid h1
  clear c1 h1
  go_wp2
  go_loopw [14] (fun i wr => ∃ k : Nat, k ≤ d.cache.length ∧ i = .int .i64 k ∧ Hid (DStep w M base bd vc (.slice a d.cache.length c) wr vc (.slice a d.cache.length c) (runD d k))) (fun i _ => d.cache.length - (intOf i).toNat)
  case atStart => exact ⟨0, Nat.zero_le _, rfl, H1⟩
  case round =>
    obtain ⟨k, hk, rfl, HS⟩ := hrel
    by_cases hlt : k < d.cache.length
    · obtain ⟨g, cc, vb, hvv, hg, e0, e1, r1⟩ := wriO_at HS.out.drv.cache hlt
      have hvv : Value.slice a d.cache.length c = .slice (some ⟨g, 0, none⟩) d.cache.length cc := hvv
      simp only [Value.slice.injEq, true_and] at hvv
      obtain ⟨rfl, rfl⟩ := hvv
      have e0' : wr.cell? ⟨g, k * 2, none⟩ = some (.int .i64 d.cache[k].addr) := e0
      obtain ⟨ab, cb, rfl⟩ := r1.form
      have e1' : wr.cell? ⟨g, k * 2 + 1, none⟩ = some (.slice ab d.cache[k].bytes.length cb) := e1
      have hwk := hwr d.cache[k] (List.getElem_mem hlt)
      obtain ⟨j, hj⟩ : ∃ j : Nat, d.cache[k].addr = j := ⟨_, (Int.toNat_of_nonneg hwk.1).symm⟩
      rw [hj] at e0' hwk
      have hjl : j < (runD d k).cells.length := by rw [runD, runC_length]; omega
      have hrun : runD d (k + 1) = { runD d k with cells := doneC (runD d k).cells j d.cache[k].bytes } := by
        simp only [runD]; rw [runC_succ _ _ _ hlt, hj]; rfl
      have Hrun := Lib.hid hrun
      have hB := Lib.hid ((Below.refl wr.heap.size wr).alloc (Nat.le_refl _) (.cells #[.int .i64 j, .slice ab d.cache[k].bytes.length cb] 78))
      have H2 := Lib.hid (HS.out.drv.belowd hB.out (Nat.le_trans hbase HS.out.below.size))
      have R2 := Lib.hid (SlR.mono (SlR.mono r1 (Keep.below hB.out)) (Keep.less (M' := DA M bd vc (.slice (some ⟨g, 0, none⟩) d.cache.length c)) (fun x hx => DA.of' hx)))
      clear e0 e1 hj hwk r1 hrun
      go_wp2_with fail
      refine (done_any _ M base bd vc _ _ (runD d k) j d.cache[k].bytes H2.out.drv (Nat.le_trans (Nat.le_trans hbase HS.out.below.size) hB.out.size) hjl R2.out).mono ?_
      rintro e w2 ⟨rfl, h3⟩
      have H3 := Lib.hid (HS.out.trans (H2.out.trans h3))
      clear h3
      go_wp2
      go_roundw
      case rel => exact ⟨k + 1, by omega, by go_num, by rw [Hrun.out]; exact H3⟩
      case measure => simp [intOf]; omega
    · obtain rfl : k = d.cache.length := by omega
      obtain ⟨c2, f2, l2⟩ := HS.out.drv.blk.all
      have c2' : ∀ i, wr.cell? ⟨bd, i, none⟩ = #[vc, .slice a d.cache.length c, .int .i64 (reqD d).reqs, .int .i64 (reqD d).left][i]? := c2
      clear c2
      go_wp2
      go_ret
      refine ⟨rfl, .slice none 0 0, ?_⟩
      have h2 := HS.out.trans (HS.out.drv.noCache)
      rw [runD, List.take_length] at h2
      exact h2
end Go.Proofs.Ytkdjacmabeeceaa
