import Derived.Test.YtkdjacmabeeceaaChk3
namespace Go.Proofs.Ytkdjacmabeeceaa
open Go.RowKit

def chkI (d : Dis) : Int := if disB d then 0 else 1
theorem chkI_head {d : Dis} (h : headB d = false) : 1 = chkI d := by simp [chkI, disB, h]
theorem chkI_cells {d : Dis} (h : d.cells.any (fun c => !cellB c) = true) : 1 = chkI d := by
  have : d.cells.all cellB = false := by rw [← Bool.not_eq_true, List.all_eq_true]; intro h'; obtain ⟨c, hc, hb⟩ := List.any_eq_true.1 h; rw [h' c hc] at hb; cases hb
  simp [chkI, disB, this]
theorem chkI_cache {d : Dis} (h : d.cache.any (fun c => !wriB d.cells.length c) = true) : 1 = chkI d := by
  have : d.cache.all (wriB d.cells.length) = false := by rw [← Bool.not_eq_true, List.all_eq_true]; intro h'; obtain ⟨c, hc, hb⟩ := List.any_eq_true.1 h; rw [h' c hc] at hb; cases hb
  simp [chkI, disB, this]
theorem chkI_ok {d : Dis} (h1 : headB d = true) (h2 : d.cells.any (fun c => !cellB c) = false) (h3 : d.cache.any (fun c => !wriB d.cells.length c) = false) : 0 = chkI d := by
  have h2' : d.cells.all cellB = true := by rw [List.all_eq_true]; intro c hc; have := List.any_eq_false.1 h2 c hc; simpa using this
  have h3' : d.cache.all (wriB d.cells.length) = true := by rw [List.all_eq_true]; intro c hc; have := List.any_eq_false.1 h3 c hc; simpa using this
  simp [chkI, disB, h1, h2', h3']

set_option maxHeartbeats 2000000 in
theorem check_any (v : Value) (d : Dis) (w : World) (M : Ms) (h : Rv w M v d) (hl : d.cells.length ≤ 1000000000) (hkl : d.cache.length ≤ 1000000000) :
    Calls Try.prog 25 #[v] w fun e w' => e = .returned (.int .i64 (chkI d)) ∧ Below w.heap.size w w' := by
  obtain ⟨c, k, rfl, hc, hk⟩ := rv_dis.1 h
  obtain ⟨ac, cc, rfl⟩ := hc.form
  obtain ⟨ak, ck, rfl⟩ := hk.form
  clear h
  have Hc := Lib.hid hc
  have Hk := Lib.hid hk
  clear hc hk
  have hB := Lib.hid ((Below.refl w.heap.size w).alloc (Nat.le_refl _) (.cells #[.slice ac d.cells.length cc, .slice ak d.cache.length ck, .int .i64 d.reqs, .int .i64 d.left] 27))
  go_enter Try.func25, Try.ntmps25
  go_wp2_with (first
    | (go_at_call 32; refine (in_any _ _ _ _).mono ?_; rintro e w' ⟨rfl, rfl⟩)
    | (go_at_call 42
       go_must (refine (containsC_any _ d.cells _ M (Hc.out.mono (Keep.below hB.out)) hl).mono ?_)
       rintro e w1 ⟨rfl, hB1⟩
       have hd0 := below_cell hB1 (World.cell?_alloc_new (w := w) #[.slice ac d.cells.length cc, .slice ak d.cache.length ck, .int .i64 d.reqs, .int .i64 d.left] 27 0)
       have hd1 := below_cell hB1 (World.cell?_alloc_new (w := w) #[.slice ac d.cells.length cc, .slice ak d.cache.length ck, .int .i64 d.reqs, .int .i64 d.left] 27 1)
       have hB1' := Lib.hid (hB.out.trans (hB1.mono (by simp)))
       clear hB1)
    | (go_at_call 45
       go_must (refine (containsW_any _ d.cache _ M (Hk.out.mono (Keep.below hB1'.out)) hkl _ _ d.cells.length _ hd0 hl).mono ?_)
       rintro e w2 ⟨rfl, hB2⟩
       have hB2' := Lib.hid (hB1'.out.trans (hB2.mono hB1'.out.size))
       clear hB2))
  all_goals go_ret
  · rename_i hor
    exact ⟨retI (chkI_head (hor.elim (fun h => by simp [headB]; omega) (fun h => by simp at h; simp [headB, h]))), hB.out⟩
  · exact ⟨retI (chkI_cells ‹_›), hB1'.out⟩
  · exact ⟨retI (chkI_cache ‹_›), hB2'.out⟩
  · exact ⟨retI (chkI_ok (by simp_all [headB]; omega) ‹_› ‹_›), hB2'.out⟩
  · exact ⟨retI (chkI_head (by simp_all [headB])), hB.out⟩
  · exact ⟨retI (chkI_head (by simp [headB]; omega)), hB.out⟩
  · exact ⟨retI (chkI_head (by simp_all [headB])), hB.out⟩
end Go.Proofs.Ytkdjacmabeeceaa
