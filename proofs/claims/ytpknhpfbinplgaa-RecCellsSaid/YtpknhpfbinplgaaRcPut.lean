/-
pack.Put.
-/
import Derived.Test.YtpknhpfbinplgaaRcConcat
namespace Go.Proofs.Ytpknhpfbinplgaa
open Go.RowKit
attribute [local go_sem ↓] Go.wp_at_zero Go.wp_at_succ

theorem OwR.pair {w : World} {v1 v2 : Value} {l1 l2 : List UInt8} (h1 : SlR w noM v1 l1) (h2 : SlR w noM v2 l2) (t : TypeId) : OwR (w.alloc (.cells #[v1, v2] t)) noM w.heap.size t (.slice (some ⟨w.heap.size, 0, none⟩) 2 2) [l1, l2] :=
  ⟨[v1, v2], ⟨rfl, .inr ⟨_, 2, _, rfl, Nat.le_refl _, heap_alloc_new w _, Nat.le_refl _, by unfold maxLen; omega, rfl, rfl⟩⟩, ⟨[v1], [v2], rfl, rfl, ⟨v1, rfl, h1.mono Keep.ownNew⟩, ⟨[v2], [], rfl, rfl, ⟨v2, rfl, h2.mono Keep.ownNew⟩, rfl⟩⟩⟩
theorem sized_iface (n size : Int) : ∃ t u, sizedV n size = .iface t u := by
  unfold sizedV
  split
  · exact ⟨_, _, rfl⟩
  · split <;> exact ⟨_, _, rfl⟩

set_option maxRecDepth 100000 in
set_option maxHeartbeats 8000000 in
theorem put_any (v : Value) (l : List UInt8) (n size : Int) (w : World) (M Mi : Ms) (h : SlR w Mi v l) (hs : szOk size) (hl : l.length ≤ 1000000) (h0 : 0 ≤ n) (h1 : n < limS size) :
    Calls Try.prog 60 #[v, .int .i64 n, .int .i64 size] w fun e w' => ∃ r, e = .returned (.tuple #[r, .int .i64 0]) ∧ OwR w' M w.heap.size 5 r (l ++ leB size.toNat n.toNat) ∧ Below w.heap.size w w' := by
  obtain ⟨a, c, rfl⟩ := h.form
  have H := Lib.hid h.bare
  have hsz := Lib.hid (sized_any n size w hs)
  rw [if_pos ⟨h0, h1⟩] at hsz
  have hby := Lib.hid (bytesOf_any n size w noM hs h0 h1)
  obtain ⟨t, u, e⟩ := sized_iface n size
  rw [e] at hsz hby
  have hlb : (leB size.toNat n.toNat).length ≤ 4 := by rw [leB_len]; rcases hs with rfl | rfl | rfl <;> decide
  obtain ⟨L, hL⟩ : ∃ L, L = leB size.toNat n.toNat := ⟨_, rfl⟩
  rw [← hL] at hby hlb ⊢
  clear e hs h0 h1 h hL
  go_enter Try.func60, Try.ntmps60
  go_wp2_with fail
  ((with_reducible refine hsz.out.mono ?_); rintro e w1 ⟨rfl, rfl⟩)
  go_wp2_with fail
  ((with_reducible refine hby.out.mono ?_); rintro e w2 ⟨r1, rfl, ho1, hB1⟩)
  obtain ⟨A1, C1, rfl⟩ := ho1.form
  have HB1 := Lib.hid hB1
  have HA := Lib.hid ((Below.refl w2.heap.size w2).alloc (Nat.le_refl _) (.cells #[.slice a l.length c, .slice A1 L.length C1] 24))
  have hcc := Lib.hid (concat_any _ [l, L] (w2.alloc (.cells #[.slice a l.length c, .slice A1 L.length C1] 24)) M noM ((OwR.pair (H.out.mono (Keep.below hB1)) (ho1.sl (fun _ _ h => h)) 24).sl (fun _ _ h => h)) (by simp; omega) (by simp))
  clear ho1 hB1 hby hsz
  go_wp2_with fail
  ((with_reducible refine hcc.out.mono ?_); rintro e w3 ⟨r3, rfl, ho3, hB3⟩)
  have HO := Lib.hid (ho3.mono_base (base' := w1.heap.size) (Nat.le_trans HB1.out.size HA.out.size))
  have HF := Lib.hid (HB1.out.trans ((HA.out.trans (hB3.mono HA.out.size)).mono HB1.out.size))
  clear ho3 hB3 hcc
  go_wp2
  go_ret2
  refine ⟨_, rfl, ?_, HF.out⟩
  have := HO.out
  simpa using this
end Go.Proofs.Ytpknhpfbinplgaa
