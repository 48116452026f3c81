/-
pack.Unrow.
-/
import Derived.Test.YtpknhpfbinplgaaRcNums
namespace Go.Proofs.Ytpknhpfbinplgaa
open Go.RowKit
attribute [local go_sem ↓] Go.wp_at_zero Go.wp_at_succ

/-- What Unrow leaves: the numbers and the rest, or nothing. -/
def UnrowP (w' : World) (base : Nat) (b : List UInt8) (ss : List Int) (e : Ending) : Prop :=
  (tot ss ≤ b.length ∧ ∃ v1 v2, e = .returned (.tuple #[v1, v2, .int .i64 0]) ∧ OwR w' noM base 3 v1 (nums ss b) ∧ OwR w' noM base 5 v2 (b.drop (tot ss))) ∨
  (b.length < tot ss ∧ e = .returned (.tuple #[.slice none 0 0, .slice none 0 0, .int .i64 4]))

set_option maxRecDepth 100000 in
set_option maxHeartbeats 8000000 in
theorem unrow_any (v1 v2 : Value) (b : List UInt8) (ss : List Int) (w : World) (M1 M2 : Ms) (h1 : SlR w M1 v1 b) (h2 : SlR w M2 v2 ss) (hss : ∀ s ∈ ss, szOk s) (hl : b.length ≤ 1000000) (hn : ss.length ≤ 1000) :
    Calls Try.prog 38 #[v1, v2] w fun e w' => UnrowP w' w.heap.size b ss e ∧ Below w.heap.size w w' := by
  obtain ⟨a1, c1, rfl⟩ := h1.form
  obtain ⟨a2, c2, rfl⟩ := h2.form
  have hcl := Lib.hid (bclone_any _ b w noM M1 h1 (by omega))
  have H2 := Lib.hid h2.bare
  have HS := Lib.hid hss
  have HL := Lib.hid hl
  clear h1 h2 hss hl
  go_enter Try.func38, Try.ntmps38
  go_wp2_with (go_at_call 42; go_must (with_reducible refine hcl.out.mono ?_); rintro e w1 ⟨r, rfl, ho1, hB1⟩)
  have HO := Lib.hid (And.intro ho1 hB1)
  clear ho1 hB1 hcl
  go_loopg [4, 5, 16] ss.length (fun g s4 s5 s16 wr => ∃ k : Nat, s16 = .int .i64 k ∧ k ≤ ss.length ∧ ss.length - k ≤ g ∧ Hid (tot (ss.take k) ≤ b.length ∧ OwR wr noM w.heap.size 3 s4 (nums (ss.take k) b) ∧ OwR wr noM w.heap.size 5 s5 (b.drop (tot (ss.take k))) ∧ Below w.heap.size w wr))
  case atStart => exact ⟨0, rfl, Nat.zero_le _, by omega, Lib.hid ⟨by simp [tot], OwR.nil _ _ _ _, by simpa [tot] using HO.out.1, HO.out.2⟩⟩
  case round =>
    obtain ⟨k, rfl, hkl, hg, hI⟩ := hrel
    obtain ⟨w0, rfl⟩ : ∃ w0, w0 = wr := ⟨_, rfl⟩
    by_cases hlt : k < ss.length
    · obtain ⟨hT, ho4, ho5, hB⟩ := hI.out
      obtain ⟨bb, off, rfl, -, x1⟩ := int_at (H2.out.mono (Keep.below hB)) hlt
      have hlt' : (k : Int) < ss.length := by omega
      have hsz := HS.out ss[k] (List.getElem_mem hlt)
      have hstep := tot_step ss k hlt
      have hle := tot_take_le ss (k + 1)
      by_cases hfit : ss[k].toNat ≤ (b.drop (tot (ss.take k))).length
      · have hpos : 0 ≤ ss[k] := by rcases hsz with h | h | h <;> rw [h] <;> decide
        have hge := Lib.hid (get_any _ (b.drop (tot (ss.take k))) ss[k] w0 noM noM (ho5.sl (fun _ _ h => h)) hsz (by omega) (by rw [List.length_drop]; have := HL.out; omega))
        have hns := Lib.hid (nums_step ss b k hlt)
        have hts := Lib.hid hstep
        have hT2 := Lib.hid (show tot (ss.take (k + 1)) ≤ b.length by rw [hstep]; rw [List.length_drop] at hfit; omega)
        obtain ⟨x, hx⟩ : ∃ x : Nat, x = leN ((b.drop (tot (ss.take k))).take ss[k].toNat) := ⟨_, rfl⟩
        rw [← hx] at hge hns
        have H4 := Lib.hid ho4
        have HB := Lib.hid hB
        have hnl : (nums (ss.take k) b).length + 1 ≤ 1000000000 := by rw [nums_len, List.length_take]; omega
        clear hx hsz hpos hfit hstep hle hT ho4 ho5 hB hI
        go_wp2_with fail
        ((with_reducible refine hge.out.mono ?_); rintro e w2 ⟨r2, rfl, ho2, hB2⟩)
        have hbA := (Below.refl w2.heap.size w2).alloc (Nat.le_refl _) (.cells #[.int .i64 x] 3)
        have O4 := Lib.hid ((H4.out.below hB2).below hbA)
        have O5 := Lib.hid (And.intro (H4.out.own_new ho2) (ho2.below hbA))
        have HB2 := Lib.hid (HB.out.trans ((hB2.trans (hbA.mono hB2.size)).mono HB.out.size))
        have hS := Lib.hid (show SlR (w2.alloc (.cells #[.int .i64 x] 3)) (fun b => noM b ∨ u4.ownBlock = some b) (.slice (some ⟨w2.heap.size, 0, none⟩) 1 1) [(x : Int)] from
          SlR.one (Blk.new w2 3 #[.int .i64 x]) rfl (fun h' => h'.elim (fun h => h) (fun h => by have := (H4.out.below hB2).own_lt h; omega)))
        clear hbA ho2 hB2 hge
        go_wp2_with (at_builtin; go_must (refine wpList_append_R (α := Int) (M := noM) (base := w.heap.size) (l := nums (ss.take k) b) (m := [(x : Int)]) rfl (by rfl) tyI (by rfl) O4.out (by rfl) hS.out (by simpa using hnl) HB2.out.size ?_); intro v4 w4 ho4 hg4 hat4)
        go_roundg (ss.length - (k + 1))
        case measure => omega
        case rel =>
          refine ⟨k + 1, by go_num, by omega, by omega, Lib.hid ⟨hT2.out, by rw [hns.out]; exact ho4, ?_, HB2.out.grown hg4 HB2.out.size (fun b e => O4.out.own_ge e)⟩⟩
          rw [hts.out, ← List.drop_drop]
          exact (O5.out.2.keptP plU hg4 O5.out.1).mono_base HB.out.size
      · have hge := Lib.hid (get_few _ (b.drop (tot (ss.take k))) ss[k] w0 noM (ho5.sl (fun _ _ h => h)) hsz (by omega))
        have hT2 := Lib.hid (show b.length < tot ss by rw [List.length_drop] at hfit; omega)
        have HB := Lib.hid hB
        clear hsz hfit hstep hle hT ho4 ho5 hB hI
        go_wp2_with fail
        ((with_reducible refine hge.out.mono ?_); rintro e w2 ⟨rfl, hB2⟩)
        have HB2 := Lib.hid (HB.out.trans (hB2.mono HB.out.size))
        clear hB2 hge
        go_wp2
        go_ret3
        exact ⟨.inr ⟨hT2.out, rfl⟩, HB2.out⟩
    · obtain rfl : k = ss.length := by omega
      rw [List.take_length] at hI
      go_wp2
      go_ret3
      exact ⟨.inl ⟨hI.out.1, _, _, rfl, hI.out.2.1, hI.out.2.2.1⟩, hI.out.2.2.2⟩
end Go.Proofs.Ytpknhpfbinplgaa
