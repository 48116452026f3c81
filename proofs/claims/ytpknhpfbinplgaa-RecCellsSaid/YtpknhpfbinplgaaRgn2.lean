/-
Plain law on a statement whose order Go leaves open: two operations may come up.
-/
import Derived.Test.YtpknhpfbinplgaaRgn
namespace Go.Proofs.Ytpknhpfbinplgaa

theorem rg_two {P : Program} {ops : Array Oper} {Q : Exit → Act → World → Prop} {D : List Nat} {S : World → Prop} (i j : Nat) {oi oj : Oper} {n : Nat} {l : Array Bool} {a : Act} {w : World} (hr : Region.ready .any ops l = [i, j]) (hi : ops[i]? = some oi) (hj : ops[j]? = some oj)
    (h1 : ∀ K : Act → World → Prop, (∀ a w, (mayWait ops D i = true → S w) ∧ Held P ops Q D S n (l.setIfInBounds i true) a w → K a w) →
      if Region.wanted oi (yielded ops a.tmps) = true then Oper.wp P oi a w K Q else K (a.put oi.dst undef) w)
    (h2 : ∀ K : Act → World → Prop, (∀ a w, (mayWait ops D j = true → S w) ∧ Held P ops Q D S n (l.setIfInBounds j true) a w → K a w) →
      if Region.wanted oj (yielded ops a.tmps) = true then Oper.wp P oj a w K Q else K (a.put oj.dst undef) w) : Held P ops Q D S (n + 1) l a w :=
  ⟨fun h0 => (by rw [h0] at hr; cases hr), fun k hk => by
    rw [hr] at hk
    simp only [List.mem_cons, List.not_mem_nil, or_false] at hk
    rcases hk with rfl | rfl
    · exact wpOp_step hi fun K hK => h1 K hK
    · exact wpOp_step hj fun K hK => h2 K hK⟩
end Go.Proofs.Ytpknhpfbinplgaa
