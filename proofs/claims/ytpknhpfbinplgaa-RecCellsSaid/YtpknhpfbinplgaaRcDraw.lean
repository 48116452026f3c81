/-
Plain law on a statement whose order Go leaves open: three operations may come up. A copy of bytes as a row of the call's own.
-/
import Derived.Test.YtpknhpfbinplgaaRcWake
namespace Go.Proofs.Ytpknhpfbinplgaa
open Go.RowKit
attribute [local go_sem ↓] Go.wp_at_zero Go.wp_at_succ

theorem rp_three {P : Program} {ops : Array Oper} {Q : Exit → Act → World → Prop} {D : List Nat} {S : World → Prop} (i j k : Nat) {oi oj ok : Oper} {n : Nat} {l : Array Bool} {a : Act} {w : World} (hr : Region.ready .any ops l = [i, j, k]) (hi : ops[i]? = some oi) (hj : ops[j]? = some oj) (hk : ops[k]? = some ok)
    (h1 : ∀ K : Act → World → Prop, (∀ a w', (mayWait ops D i = true → S w → S w') ∧ HeldP P ops Q D S n (l.setIfInBounds i true) a w' → K a w') →
      if Region.wanted oi (yielded ops a.tmps) = true then Oper.wp P oi a w K Q else K (a.put oi.dst undef) w)
    (h2 : ∀ K : Act → World → Prop, (∀ a w', (mayWait ops D j = true → S w → S w') ∧ HeldP P ops Q D S n (l.setIfInBounds j true) a w' → K a w') →
      if Region.wanted oj (yielded ops a.tmps) = true then Oper.wp P oj a w K Q else K (a.put oj.dst undef) w)
    (h3 : ∀ K : Act → World → Prop, (∀ a w', (mayWait ops D k = true → S w → S w') ∧ HeldP P ops Q D S n (l.setIfInBounds k true) a w' → K a w') →
      if Region.wanted ok (yielded ops a.tmps) = true then Oper.wp P ok a w K Q else K (a.put ok.dst undef) w) : HeldP P ops Q D S (n + 1) l a w :=
  ⟨fun h0 => (by rw [h0] at hr; cases hr), fun m hm => by
    rw [hr] at hm
    simp only [List.mem_cons, List.not_mem_nil, or_false] at hm
    rcases hm with rfl | rfl | rfl
    · exact wpOp_step hi fun K hK => h1 K hK
    · exact wpOp_step hj fun K hK => h2 K hK
    · exact wpOp_step hk fun K hK => h3 K hK⟩
set_option maxHeartbeats 400000 in
theorem twinO_any (v : Value) (l : List UInt8) (w : World) (Mi : Ms) (h : SlR w Mi v l) (hl : l.length ≤ 1000000000) :
    Calls Try.prog 14 #[v] w fun e w' => ∃ r, e = .returned r ∧ OwR w' noM w.heap.size 5 r l ∧ Below w.heap.size w w' := by
  have hs := h.bare
  go_enter Try.func14, Try.ntmps14
  go_wp2_with (at_builtin; go_must (refine wpList_append_R (α := UInt8) (M := noM) (base := w.heap.size) (l := []) (m := l) (v := .slice none 0 0) (u := v) rfl (by rfl) tyB (by rfl) (OwR.nil _ _ _ _) (by rfl) (hs.mono (Keep.ownNil _ _ _)) (by simpa using hl) (Nat.le_refl _) ?_; intro v1 w1 ho hg hat))
  go_ret
  exact ⟨_, rfl, ho, Below.ofNil hg⟩
theorem far_st8 {w : World} {g : Nat} {t : TypeId} {cs : Array Value} (h : Blk w g t cs) {b : Nat} (hb : g ≠ b) (x0 x1 x2 x3 x4 x5 x6 x7 : Value) :
    Blk ((((((((w.setCell ⟨b, 0, none⟩ x0).setCell ⟨b, 1, none⟩ x1).setCell ⟨b, 2, none⟩ x2).setCell ⟨b, 3, none⟩ x3).setCell ⟨b, 4, none⟩ x4).setCell ⟨b, 5, none⟩ x5).setCell ⟨b, 6, none⟩ x6).setCell ⟨b, 7, none⟩ x7) g t cs :=
  (((((((h.far (p := ⟨b, 0, none⟩) hb x0).far (p := ⟨b, 1, none⟩) hb x1).far (p := ⟨b, 2, none⟩) hb x2).far (p := ⟨b, 3, none⟩) hb x3).far (p := ⟨b, 4, none⟩) hb x4).far (p := ⟨b, 5, none⟩) hb x5).far (p := ⟨b, 6, none⟩) hb x6).far (p := ⟨b, 7, none⟩) hb x7
end Go.Proofs.Ytpknhpfbinplgaa
