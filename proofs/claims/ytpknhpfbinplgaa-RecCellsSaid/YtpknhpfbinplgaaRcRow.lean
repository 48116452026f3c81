/-
pack.Row, pack.Part.
-/
import Derived.Test.YtpknhpfbinplgaaRcPut
namespace Go.Proofs.Ytpknhpfbinplgaa
open Go.RowKit
attribute [local go_sem ↓] Go.wp_at_zero Go.wp_at_succ

def rowB : List Int → List Int → List UInt8
  | n :: ns, s :: ss => leB s.toNat n.toNat ++ rowB ns ss
  | _, _ => []
theorem rowB_step : ∀ (ns ss : List Int) (k : Nat) (h1 : k < ns.length) (h2 : k < ss.length), rowB (ns.take (k + 1)) (ss.take (k + 1)) = rowB (ns.take k) (ss.take k) ++ leB ss[k].toNat ns[k].toNat
  | n :: ns, s :: ss, 0, _, _ => by simp [rowB]
  | n :: ns, s :: ss, k + 1, h1, h2 => by
    have := rowB_step ns ss k (by simpa using h1) (by simpa using h2)
    simp only [List.take_succ_cons, rowB, List.getElem_cons_succ, List.append_assoc]
    rw [this]
theorem rowB_len : ∀ (ns ss : List Int), (∀ s ∈ ss, szOk s) → (rowB ns ss).length ≤ 4 * ss.length
  | [], ss, _ => by simp [rowB]
  | n :: ns, [], _ => by simp [rowB]
  | n :: ns, s :: ss, h => by
    have := rowB_len ns ss (fun x hx => h x (by simp [hx]))
    have h1 : s.toNat ≤ 4 := by rcases h s (by simp) with rfl | rfl | rfl <;> decide
    simp only [rowB, List.length_append, leB_len, List.length_cons]
    omega

set_option maxRecDepth 100000 in
set_option maxHeartbeats 8000000 in
theorem row_any (v1 v2 : Value) (ns ss : List Int) (w : World) (M M1 M2 : Ms) (h1 : SlR w M1 v1 ns) (h2 : SlR w M2 v2 ss) (hl : ns.length = ss.length) (hn : ns.length ≤ 1000)
    (hf : ∀ k (a : k < ns.length) (b : k < ss.length), szOk ss[k] ∧ 0 ≤ ns[k] ∧ ns[k] < limS ss[k]) :
    Calls Try.prog 34 #[v1, v2] w fun e w' => ∃ r, e = .returned (.tuple #[r, .int .i64 0]) ∧ OwR w' M w.heap.size 5 r (rowB ns ss) ∧ Below w.heap.size w w' := by
  obtain ⟨a1, c1, rfl⟩ := h1.form
  obtain ⟨a2, c2, rfl⟩ := h2.form
  have H1 := Lib.hid h1.bare
  have H2 := Lib.hid h2.bare
  have HF := Lib.hid hf
  have hlen' : ((ns.length : Int) != ss.length) = false := by simp [hl]
  have Hl := Lib.hid hl
  have Hss : Hid (∀ s ∈ ss, szOk s) := Lib.hid fun s hs => by
    obtain ⟨k, hk, rfl⟩ := List.getElem_of_mem hs
    exact (hf k (by omega) hk).1
  clear h1 h2 hf hl
  go_enter Try.func34, Try.ntmps34
  go_wp2
  clear hlen'
  go_loopg [6, 18] ns.length (fun g s6 s18 wr => ∃ k : Nat, s18 = .int .i64 k ∧ k ≤ ns.length ∧ ns.length - k ≤ g ∧ Hid (OwR wr noM w.heap.size 5 s6 (rowB (ns.take k) (ss.take k)) ∧ Below w.heap.size w wr))
  case atStart => exact ⟨0, rfl, Nat.zero_le _, by omega, Lib.hid ⟨OwR.nil _ _ _ _, Below.refl _ _⟩⟩
  case round =>
    obtain ⟨k, rfl, hkl, hg, hI⟩ := hrel
    by_cases hlt : k < ns.length
    · obtain ⟨ho, hB⟩ := hI.out
      have hl := Hl.out
      have hlt2 : k < ss.length := by omega
      have hl2 : (ss.take k).length ≤ 1000 := by rw [List.length_take]; omega
      obtain ⟨b1, o1, rfl, -, x1⟩ := int_at (H1.out.mono (Keep.below hB)) hlt
      obtain ⟨b2, o2, rfl, -, x2⟩ := int_at (H2.out.mono (Keep.below hB)) hlt2
      have hlt' : (k : Int) < ns.length := by omega
      have hlt2' : (k : Int) < ss.length := by omega
      obtain ⟨f1, f2, f3⟩ := HF.out k hlt hlt2
      have hle := rowB_len (ns.take k) (ss.take k) (fun s hs => Hss.out s (List.mem_of_mem_take hs))
      have hp := Lib.hid (put_any _ _ ns[k] ss[k] wr noM noM (ho.sl (fun _ _ h => h)) f1 (by omega) f2 f3)
      have hst := Lib.hid (rowB_step ns ss k hlt hlt2)
      have HB := Lib.hid hB
      clear f1 f2 f3 ho hB hI hle hl hl2
      go_wp2_with (go_at_call 60; go_must (with_reducible refine hp.out.mono ?_); rintro e w2 ⟨r, rfl, ho2, hB2⟩)
      go_roundg (ns.length - (k + 1))
      case measure => omega
      case rel => exact ⟨k + 1, by go_num, by omega, by omega, Lib.hid ⟨by rw [hst.out]; exact ho2.mono_base HB.out.size, HB.out.trans (hB2.mono HB.out.size)⟩⟩
    · obtain rfl : k = ns.length := by omega
      obtain ⟨ho, hB⟩ := hI.out
      rw [List.take_length, Hl.out, List.take_length] at ho
      have HX := Lib.hid (And.intro (OwR.plain (M' := M) (fun _ _ _ _ _ h => h) ho) hB)
      clear ho hB hI
      go_wp2
      go_ret2
      exact ⟨_, rfl, HX.out.1, HX.out.2⟩
end Go.Proofs.Ytpknhpfbinplgaa
