/-
pack.Unpart.
-/
import Derived.Test.YtpknhpfbinplgaaRcUnrow
namespace Go.Proofs.Ytpknhpfbinplgaa
open Go.RowKit
attribute [local go_sem ↓] Go.wp_at_zero Go.wp_at_succ

theorem SlR.dropU {w : World} {M : Ms} {b off n c i : Nat} {l : List UInt8} (h : SlR w M (.slice (some ⟨b, off, none⟩) n c) l) (hi : i ≤ l.length) : SlR w M (.slice (if c = i then some ⟨b, off, none⟩ else some ⟨b, off + i, none⟩) (n - i) (c - i)) (l.drop i) := by
  have := h.drop_ hi
  rwa [show Rp.sz UInt8 = 1 from rfl, Nat.mul_one] at this
/-- How long the part is that bytes begin with. -/
def partN (b : List UInt8) : Nat := (b.headD 0).toNat
def partOk (b : List UInt8) : Bool := decide (1 ≤ b.length ∧ 1 + partN b ≤ b.length)
def UnpartP (w' : World) (base : Nat) (b : List UInt8) (e : Ending) : Prop :=
  (partOk b = true ∧ ∃ v1 v2, e = .returned (.tuple #[v1, v2, .int .i64 0]) ∧ OwR w' noM base 5 v1 ((b.drop 1).take (partN b)) ∧ OwR w' noM base 5 v2 (b.drop (1 + partN b))) ∨
  (partOk b = false ∧ e = .returned (.tuple #[.slice none 0 0, .slice none 0 0, .int .i64 4]))

set_option maxRecDepth 100000 in
set_option maxHeartbeats 8000000 in
theorem unpart_any (v1 : Value) (b : List UInt8) (w : World) (M1 : Ms) (h1 : SlR w M1 v1 b) (hl : b.length ≤ 1000000) :
    Calls Try.prog 57 #[v1] w fun e w' => UnpartP w' w.heap.size b e ∧ Below w.heap.size w w' := by
  obtain ⟨a1, c1, rfl⟩ := h1.form
  obtain ⟨-, hc1, hc2⟩ := h1.cap
  have H1 := Lib.hid h1.bare
  clear h1
  by_cases h0 : b.length = 0
  · have hE := Lib.hid (show partOk b = false by simp [partOk, h0])
    have h0' : ((b.length : Int) == 0) = true := by simp [h0]
    clear h0
    go_enter Try.func57, Try.ntmps57
    go_wp2
    go_ret3
    exact ⟨.inr ⟨hE.out, rfl⟩, Below.refl _ _⟩
  · have hpos : 0 < b.length := by omega
    have h0' : ((b.length : Int) == 0) = false := by simpa using h0
    obtain ⟨B, off, rfl, -, x1⟩ := u8_at H1.out hpos
    rw [Nat.add_zero] at x1
    have hw : IntKind.i64.wrap (b[0].toNat : Int) = b[0].toNat := by have := b[0].toNat_lt; rw [IntKind.wrap_i64]; omega
    have hbt : (b[0].toNat : Int) ≤ 255 := by have := b[0].toNat_lt; omega
    obtain ⟨m, hm⟩ : ∃ m : Nat, (1 : Int) + ((b[0].toNat : Nat) : Int) = (m : Int) := ⟨1 + b[0].toNat, by omega⟩
    have hm1 : (1 : Int) ≤ m := by omega
    have hm2 : (m : Int) ≤ 256 := by omega
    have hN : Hid (1 + partN b = m) := Lib.hid (by cases b with | nil => simp at hpos | cons x l => simp only [partN, List.headD_cons]; simp only [List.getElem_cons_zero] at hm; omega)
    have hpos' : (0 : Int) < b.length := by omega
    clear h0
    by_cases hlt : b.length < m
    · have hE := Lib.hid (show partOk b = false by simp only [partOk, hN.out]; simp; omega)
      have hlt' : (b.length : Int) < m := by omega
      go_enter Try.func57, Try.ntmps57
      go_wp2
      go_ret3
      exact ⟨.inr ⟨hE.out, rfl⟩, Below.refl _ _⟩
    · have hE := Lib.hid (show partOk b = true by simp only [partOk, hN.out]; simp; omega)
      have hlt' : ¬ (b.length : Int) < m := by omega
      have hmc : (m : Int) ≤ c1 := by omega
      have hm0 : (0 : Int) ≤ m := by omega
      go_enter Try.func57, Try.ntmps57
      go_wp2_with fail
      refine rp_enter [] (fun _ => True) (by kernel_rfl) ?_
      apply rp_pure 0 rfl (by kernel_rfl) (fun _ _ _ h => h) rfl
      · (intro W; go_simp; try rfl)
      · (go_simp; try rfl)
      apply rp_pure 1 rfl (by kernel_rfl) (fun _ _ _ h => h) rfl
      · (intro W; go_simp; try rfl)
      · (go_simp; try rfl)
      apply rp_pure 2 rfl (by kernel_rfl) (fun _ _ _ h => h) rfl
      · (intro W; go_simp; try rfl)
      · (go_simp; try rfl)
      apply rp_pure 4 rfl (by kernel_rfl) (fun _ _ _ h => h) rfl
      · (intro W; go_simp; try rfl)
      · (go_simp; try rfl)
      apply rp_pure 5 rfl (by kernel_rfl) (fun _ _ _ h => h) rfl
      · (intro W; go_simp; try rfl)
      · (go_simp; try rfl)
      apply rp_pure 6 rfl (by kernel_rfl) (fun _ _ _ h => h) rfl
      · (intro W; go_simp; try rfl)
      · (go_simp; try rfl)
      refine rp_only 3 (by kernel_rfl) rfl (fun K hK => ?_)
      have hcl := Lib.hid (bclone_any _ ((b.take m).drop 1) w.drew noM noM ((H1.out.take_ (i := m) (by omega)).dropU (i := 1) (by rw [List.length_take]; omega)) (by rw [List.length_drop, List.length_take]; omega))
      go_simp
      refine hcl.out.mono ?_
      rintro e w2 ⟨r2, rfl, ho2, hB2⟩
      have hcl2 := Lib.hid (bclone_any _ (b.drop m) w2 noM noM ((H1.out.mono (Keep.below ((below_drew w).trans hB2))).dropU (i := m) (by omega)) (by rw [List.length_drop]; omega))
      refine hK _ _ ⟨fun _ _ => trivial, ?_⟩; clear hK K
      refine rp_only 7 (by kernel_rfl) rfl (fun K hK => ?_)
      go_simp
      refine hcl2.out.mono ?_
      rintro e w3 ⟨r3, rfl, ho3, hB3⟩
      refine hK _ _ ⟨fun _ _ => trivial, ?_⟩; clear hK K
      have hlist : (b.take m).drop 1 = (b.drop 1).take (partN b) := by rw [List.drop_take]; congr 1; have := hN.out; omega
      have hdr : b.drop m = b.drop (1 + partN b) := by rw [hN.out]
      rw [hlist] at ho2
      rw [hdr] at ho3
      have HX := Lib.hid (And.intro (And.intro ((ho2.below hB3).mono_base (base' := w.heap.size) (below_drew w).size) (ho3.mono_base (base' := w.heap.size) hB2.size)) (((below_drew w).trans hB2).trans (hB3.mono hB2.size)))
      clear ho2 ho3 hB2 hB3 hcl hcl2 hlist hdr
      apply rp_pure 8 rfl (by kernel_rfl) (fun _ _ _ h => h) rfl
      · (intro W; go_simp; try rfl)
      · (go_simp; try rfl)
      apply rp_pure 9 rfl (by kernel_rfl) (fun _ _ _ h => h) rfl
      · (intro W; go_simp; try rfl)
      · (go_simp; try rfl)
      apply rp_pure 10 rfl (by kernel_rfl) (fun _ _ _ h => h) rfl
      · (intro W; go_simp; try rfl)
      · (go_simp; try rfl)
      refine rp_done (by kernel_rfl) ?_
      go_wp2
      all_goals
        go_ret3
        exact ⟨.inl ⟨hE.out, _, _, rfl, HX.out.1.1, HX.out.1.2⟩, HX.out.2⟩
end Go.Proofs.Ytpknhpfbinplgaa
