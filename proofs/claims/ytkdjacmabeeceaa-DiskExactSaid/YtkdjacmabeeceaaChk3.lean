import Derived.Test.YtkdjacmabeeceaaChk2
namespace Go.Proofs.Ytkdjacmabeeceaa
open Go.RowKit

set_option maxHeartbeats 400000 in
theorem containsC_any (v : Value) (l : List Cel) (w : World) (M : Ms) (h : SlR w M v l) (hl : l.length ≤ 1000000000) :
    Calls Try.prog 42 #[v, .func (.func 43) #[] #[]] w fun e w' => e = .returned (.bool (l.any (fun c => !cellB c))) ∧ Below w.heap.size w w' := by
  have hc := Lib.hid (indexC_any v l w M h hl)
  clear h
  go_enter Try.func42, Try.ntmps42
  go_wp2_with (go_at_call 54; go_must (refine hc.out.mono ?_); rintro e w1 ⟨k, rfl, hk, hB⟩; replace hk := Lib.hid hk)
  go_ret
  exact ⟨retB (by rw [← hk.out]; simp), hB⟩

def wriB (n : Int) (x : Wri) : Bool := inB x.addr 0 (n - 1) && decide (x.bytes.length ≤ 200)

set_option maxHeartbeats 400000 in
theorem check2_any (v : Value) (x : Wri) (w : World) (M : Ms) (h : Rv w M v x) (bd : Nat) (a : Option Addr) (n c : Nat) (hd : w.cell? ⟨bd, 0, none⟩ = some (.slice a n c)) (hn : n ≤ 1000000000) :
    Calls Try.prog 46 #[v, .pointer (some ⟨bd, 0, none⟩)] w fun e w' => e = .returned (.bool (!wriB n x)) ∧ Below w.heap.size w w' := by
  obtain ⟨b, rfl, hb⟩ := rv_wri.1 h
  obtain ⟨ab, cb, rfl⟩ := hb.form
  have hB := Lib.hid ((Below.refl w.heap.size w).alloc (Nat.le_refl _) (.cells #[Value.int .i64 x.addr, .slice ab x.bytes.length cb] 78))
  have hd' := below_cell hB.out hd
  clear hb h
  cases hin : inB x.addr 0 (n - 1)
  all_goals
    have Hin := Lib.hid hin
    clear hin
    go_enter Try.func46, Try.ntmps46
    go_wp2_with (go_at_call 32; refine (in_any _ _ _ _).mono ?_; rintro e w' ⟨rfl, rfl⟩; rw [Hin.out])
    all_goals go_ret
    all_goals exact ⟨retB (by simp [wriB, Hin.out]; try omega), hB.out⟩

set_option maxHeartbeats 1000000 in
theorem indexW_any (v : Value) (l : List Wri) (w : World) (M : Ms) (h : SlR w M v l) (hl : l.length ≤ 1000000000) (bd : Nat) (a' : Option Addr) (n c' : Nat) (hd : w.cell? ⟨bd, 0, none⟩ = some (.slice a' n c')) (hn : n ≤ 1000000000) :
    Calls Try.prog 55 #[v, .func (.func 46) #[] #[.pointer (some ⟨bd, 0, none⟩)]] w fun e w' => ∃ k : Int, e = .returned (.int .i64 k) ∧ (0 ≤ k ↔ l.any (fun c => !wriB n c) = true) ∧ Below w.heap.size w w' := by
  obtain ⟨a, c, rfl⟩ := h.form
  have Hd := Lib.hid hd
  clear hd
  go_enter Try.func55, Try.ntmps55
  go_wp2
  go_loopw [8] (fun i wr => ∃ k : Nat, k ≤ l.length ∧ i = .int .i64 k ∧ Below w.heap.size w wr ∧ Hid ((l.take k).any (fun c => !wriB n c) = false)) (fun i _ => l.length - (intOf i).toNat)
  case atStart => exact ⟨0, Nat.zero_le _, rfl, Below.refl _ _, by simp [Hid]⟩
  case round =>
    obtain ⟨k, hk, rfl, hB, hany⟩ := hrel
    by_cases hlt : k < l.length
    · obtain ⟨b, off, vb, rfl, hm, c0, c1, hb⟩ := wri_at (h.mono (Keep.below hB)) hlt
      have hpx := Lib.hid (check2_any _ l[k] wr M (rv_wri.2 ⟨vb, rfl, hb⟩) bd a' n c' (below_cell hB Hd.out) hn)
      clear hb h
      have hs := any_take_succ (fun c => !wriB n c) l k hlt
      rw [hany.out, Bool.false_or] at hs
      cases hpk : !wriB n l[k]
      · simp only [hpk] at hs
        have Hs := Lib.hid hs
        rw [hpk] at hpx
        clear hs hpk
        go_wp2_with (go_at_call 46; go_must (refine hpx.out.mono ?_); rintro e w1 ⟨rfl, hB1⟩)
        go_roundw
        case rel => exact ⟨k + 1, by omega, by go_num, hB.trans (hB1.mono hB.size), Hs⟩
        case measure => simp [intOf]; omega
      · have ha := Lib.hid (any_of (fun c => !wriB n c) l k hlt hpk)
        rw [hpk] at hpx
        clear hs hpk
        go_wp2_with (go_at_call 46; go_must (refine hpx.out.mono ?_); rintro e w1 ⟨rfl, hB1⟩)
        go_ret
        exact ⟨_, rfl, ⟨fun _ => ha.out, fun _ => by omega⟩, hB.trans (hB1.mono hB.size)⟩
    · have hk' : k = l.length := by omega
      subst hk'
      go_wp2
      go_ret
      exact ⟨_, rfl, ⟨fun h => absurd h (by decide), fun h => absurd h (not_any_take _ l hany.out)⟩, hB⟩

set_option maxHeartbeats 400000 in
theorem containsW_any (v : Value) (l : List Wri) (w : World) (M : Ms) (h : SlR w M v l) (hl : l.length ≤ 1000000000) (bd : Nat) (a' : Option Addr) (n c' : Nat) (hd : w.cell? ⟨bd, 0, none⟩ = some (.slice a' n c')) (hn : n ≤ 1000000000) :
    Calls Try.prog 45 #[v, .func (.func 46) #[] #[.pointer (some ⟨bd, 0, none⟩)]] w fun e w' => e = .returned (.bool (l.any (fun c => !wriB n c))) ∧ Below w.heap.size w w' := by
  have hc := Lib.hid (indexW_any v l w M h hl bd a' n c' hd hn)
  clear h hd
  go_enter Try.func45, Try.ntmps45
  go_wp2_with (go_at_call 55; go_must (refine hc.out.mono ?_); rintro e w1 ⟨k, rfl, hk, hB⟩; replace hk := Lib.hid hk)
  go_ret
  exact ⟨retB (by rw [← hk.out]; simp), hB⟩

def headB (d : Dis) : Bool := inB d.cells.length 1 300 && decide (d.cache.length ≤ 2000) && inB d.reqs 0 1048576 && inB d.left (-1) 1048576
def disB (d : Dis) : Bool := headB d && d.cells.all cellB && d.cache.all (wriB d.cells.length)
end Go.Proofs.Ytkdjacmabeeceaa
