/-
slices.DeleteFunc over integers in a row of the call's own.
-/
import Derived.Test.YtombdkdidnoomaaLWrite
import Derived.Lib.SliceRun
namespace Go.Proofs.Ytombdkdidnoomaa
open Go.RowKit
attribute [local go_sem ↓] Go.wp_at_zero Go.wp_at_succ

theorem wpList_clear_R {P : Program} {w : World} {ops : Array Oper} {rest : List Oper} {o : Oper} {a : Act} {Q : Exit → Act → World → Prop} (hgd : o.guard = none) (d : Operand) (t : TypeId)
    (ho : o.op = .call { callee := .builtin .clear, args := #[d], argTypes := #[t] }) {v : Value} (hd : a.eval d = v) {v' : Value} {w' : World}
    (hr : (Builtin.clear_ #[t] o.type #[v]).run P w = .ok v' w') (h : wpList P ops Q rest (a.put o.dst v') w') : wpList P ops Q (o :: rest) a w := by
  refine wpList_plain hgd fun _ hK => ?_
  unfold Oper.wp execOp
  simp only [ho, resolve, invoke, builtin, Sem.run_bind, Sem.run_pure, Result.andThen_ok, List.map_toArray, List.map_cons, List.map_nil, hd, hr]
  exact hK _ _ h
theorem ownsRow_setCells {base sz n c g : Nat} {e : TypeId} : ∀ (vs : List Value) (o : Nat) (w : World) (xs : List Value), w.ownsRow base e sz (.slice (some ⟨g, 0, none⟩) n c) n xs →
    ∃ xs', (w.setCells g o vs).ownsRow base e sz (.slice (some ⟨g, 0, none⟩) n c) n xs' ∧ xs'.take o = xs.take o ∧ w.grownBy (w.setCells g o vs) (some g)
  | [], o, w, xs, h => ⟨xs, h, rfl, World.grownBy.refl w _⟩
  | v :: vs, o, w, xs, h => by
    obtain ⟨xs', h1, h2, h3⟩ := ownsRow_setCells vs (o + 1) (w.setCell ⟨g, o, none⟩ v) _ (ownsRow_set h (p := o) v)
    refine ⟨xs', h1, ?_, (show w.grownBy (w.setCell ⟨g, o, none⟩ v) (some g) from ⟨rfl, rfl, rfl, by simp, fun i _ hne => Below.heap_setCell _ _ _ _ (fun e => hne (by rw [e]))⟩).trans h3⟩
    have : (xs'.take (o + 1)).take o = ((xs.set o v).take (o + 1)).take o := by rw [h2]
    rw [List.take_take, List.take_take, Nat.min_eq_left (by omega)] at this
    rw [this, List.take_set_of_le (by omega)]
theorem ownsRow_cut {w : World} {base sz n c g i : Nat} {e : TypeId} {xs : List Value} (h : w.ownsRow base e sz (.slice (some ⟨g, 0, none⟩) n c) n xs) (hi : i ≤ n) : w.ownsRow base e sz (.slice (some ⟨g, 0, none⟩) i c) i (xs.take (i * sz)) := by
  have hle : i * sz ≤ n * sz := Nat.mul_le_mul_right _ hi
  refine ⟨by rw [List.length_take, h.1]; omega, ?_⟩
  rcases h.2 with ⟨h', _⟩ | ⟨g', c', cur, h', hb, hg, hnc, hcm, hcs, ht⟩
  · cases h'
  · cases h'
    exact .inr ⟨g, c, cur, rfl, hb, hg, by omega, hcm, hcs, by rw [← ht, List.take_take, Nat.min_eq_left hle]⟩

theorem findIdx_split {q : Int → Bool} : ∀ {l : List Int} {k : Nat}, l.findIdx? q = some k → k < l.length ∧ l.take k = (l.take (k + 1)).filter (fun x => !q x)
  | [], _, h => by simp at h
  | x :: l, k, h => by
    rw [List.findIdx?_cons] at h
    by_cases hx : q x = true
    · simp [hx] at h; subst h; simp [hx]
    · simp only [Bool.not_eq_true] at hx
      simp only [hx, Bool.false_eq_true, if_false, Option.map_eq_some_iff] at h
      obtain ⟨k', h1, rfl⟩ := h
      obtain ⟨h2, h3⟩ := findIdx_split h1
      refine ⟨by simpa using h2, ?_⟩
      simp only [List.take_succ_cons, List.filter_cons, hx, Bool.not_false, if_true]
      rw [← h3]
theorem findIdx_none {q : Int → Bool} {l : List Int} (h : l.findIdx? q = none) : l.filter (fun x => !q x) = l := by
  rw [List.filter_eq_self]
  intro x hx
  have := List.findIdx?_eq_none_iff.1 h x hx
  simp [this]
theorem filt_snoc {q : Int → Bool} {l : List Int} {j : Nat} (hj : j < l.length) : (l.take (j + 1)).filter q = (l.take j).filter q ++ (if q l[j] = true then [l[j]] else []) := by
  have e : l.take (j + 1) = l.take j ++ [l[j]] := by rw [List.take_add_one, List.getElem?_eq_getElem hj]; rfl
  rw [e, List.filter_append]
  congr 1
  by_cases hq : q l[j] = true <;> simp [hq]

/-- One integer of a row stored anew. -/
theorem OwR.setI {w : World} {M : Ms} {base g n c j : Nat} {e : TypeId} {l : List Int} (h : OwR w M base e (.slice (some ⟨g, 0, none⟩) n c) l) (x : Int) : OwR (w.setCell ⟨g, j, none⟩ (.int .i64 x)) M base e (.slice (some ⟨g, 0, none⟩) n c) (l.set j x) := by
  have hn : n = l.length := by obtain ⟨A, C, e⟩ := h.form; cases e; rfl
  subst hn
  rw [OwR.int_iff] at h ⊢
  have := ownsRow_set h (p := j) (.int .i64 x)
  rw [List.length_set]
  have e : (l.set j x).map (Value.int .i64) = (l.map (Value.int .i64)).set j (.int .i64 x) := by rw [List.map_set]
  rw [e]
  exact this

set_option maxHeartbeats 8000000 in
theorem delI_any (gf : Nat) (p : Int → Int → Bool) (eg : ∀ args w, (callFunc gf args).run Try.prog w = .ok (.enter gf args) w) (hp : FunI gf p) (B : Nat) (n : Int) (v : Value) (l : List Int) (w : World) (M : Ms) (base : Nat) (h : OwR w M base 3 v l) (hB : v.ownBlock ≠ some B)
    (hn : w.cell? ⟨B, 0, none⟩ = some (.int .i64 n)) (hl : l.length ≤ 1000000) :
    Calls Try.prog 28 #[v, .func (.func gf) #[] #[.pointer (some ⟨B, 0, none⟩)]] w fun e w' => ∃ v', e = .returned v' ∧ OwR w' M base 3 v' (l.filter fun x => !p n x) ∧ w.grownBy w' v.ownBlock ∧ v'.ownBlock = v.ownBlock := by
  have hix := Lib.hid (ixfI_any gf p eg hp B n v l w noM (h.ints.sl (fun _ _ h => h)) hn (by omega))
  obtain ⟨A, c, rfl⟩ := h.form
  cases hf : l.findIdx? (p n) with
  | none =>
    have hE := Lib.hid (findIdx_none hf)
    have hI : idxP (p n) l = -1 := by simp [idxP, hf]
    rw [hI] at hix
    have H := Lib.hid h
    clear h hf hI hp hn hB
    go_enter Try.func28, Try.ntmps28
    go_wp2_with (go_at_call 46; go_must (refine hix.out.mono ?_); rintro e w2 ⟨rfl, rfl⟩)
    go_ret
    rw [hE.out]
    exact ⟨_, rfl, H.out, World.grownBy.refl _ _, rfl⟩
  | some k =>
    have hI : idxP (p n) l = (k : Int) := by simp [idxP, hf]
    rw [hI] at hix
    obtain ⟨hk, hsp⟩ := findIdx_split hf
    have hcl := Lib.hid (fun (W : World) (x : Int) (hc : W.cell? ⟨B, 0, none⟩ = some (.int .i64 n)) => hp B n x W hc)
    obtain ⟨g, rfl⟩ : ∃ g, A = some ⟨g, 0, none⟩ := by
      obtain ⟨xs, ho, _⟩ := id h
      rcases ho.2 with ⟨e, h0⟩ | ⟨g, cap, cur, e, _⟩
      · omega
      · cases e; exact ⟨g, rfl⟩
    have hBg := Lib.hid (show B ≠ g from fun e => hB (by rw [e]; rfl))
    have hcc := Lib.hid (show l.length ≤ c ∧ c ≤ 9223372036854775807 by
      obtain ⟨xs, ho, _⟩ := id h
      rcases ho.2 with ⟨e, h0⟩ | ⟨g', cap, cur, e, _, _, h1, h2, _⟩
      · cases e
      · cases e; exact ⟨h1, by unfold maxLen at h2; omega⟩)
    have H := Lib.hid h
    have HS := Lib.hid hsp
    have HN := Lib.hid hn
    have hk1 : (0 : Int) ≤ k := by omega
    have hke : ((k : Int) == -1) = false := by rw [beq_eq_false_iff_ne]; omega
    obtain ⟨m, hm⟩ : ∃ m, m = l.length := ⟨_, rfl⟩
    have Hm := Lib.hid hm
    have Hk := Lib.hid hk
    rw [← hm] at hix hl hk ⊢
    have Heg := Lib.hid eg
    clear h hf hI hp hn hB hsp hm eg
    go_enter Try.func28, Try.ntmps28
    go_wp2_with (go_at_call 46; go_must (refine hix.out.mono ?_); rintro e w2 ⟨rfl, rfl⟩)
    clear hke
    go_loopw [5, 6] (fun s5 s6 wr => ∃ i j : Nat, s5 = .int .i64 i ∧ s6 = .int .i64 j ∧ i < j ∧ j ≤ m ∧ ∃ L : List Int, Hid (L.length = m ∧ L.take i = (l.take j).filter (fun x => !p n x) ∧ L.drop j = l.drop j ∧ OwR wr M base 3 (.slice (some ⟨g, 0, none⟩) m c) L ∧ w.grownBy wr (some g))) (fun _ s6 _ => m - (intOf s6).toNat)
    case atStart => exact ⟨k, k + 1, rfl, by go_num, by omega, by omega, l, Lib.hid ⟨Hm.out.symm, HS.out, rfl, by rw [Hm.out]; exact H.out, World.grownBy.refl _ _⟩⟩
    case round =>
      obtain ⟨i, j, rfl, rfl, hij, hjm, L, hI⟩ := hrel
      have eg := Heg.out
      have hLl := Lib.hid (hI.out.1.trans Hm.out)
      by_cases hlt : j < m
      · have hjl : j < l.length := by rw [← Hm.out]; exact hlt
        have hjL : j < L.length := by rw [hI.out.1]; exact hlt
        have hLj : L[j] = l[j] := by
          have h1 := congrArg (fun t => t[0]?) hI.out.2.2.1
          simp only [List.getElem?_drop, Nat.add_zero, List.getElem?_eq_getElem hjL, List.getElem?_eq_getElem hjl, Option.some.injEq] at h1
          exact h1
        have hor := OwR.int_iff.1 hI.out.2.2.2.1
        have hcell : ∀ t (ht : t < L.length), wr.cell? ⟨g, t, none⟩ = some (.int .i64 L[t]) := fun t ht => by
          have := hor.cells (g := g) rfl t (.int .i64 L[t]) (by rw [List.getElem?_map, List.getElem?_eq_getElem ht]; rfl)
          rwa [Addr.add_lit, Nat.zero_add] at this
        have hfr : ∀ t, wr.frozen? ⟨g, t, none⟩ = false := fun t => by
          rcases hor.2 with ⟨e, _⟩ | ⟨g', cap, cur, e, _, hg, _⟩
          · cases e
          · cases e; exact frozen_of_row wr g t cur _ hg
        have x1 := hcell j hjL
        rw [hLj] at x1
        have x2 := hcell i (by omega)
        have x3 := hfr i
        have hc1 := Lib.hid (hcl.out wr l[j] (hI.out.2.2.2.2.cell HN.out (fun e => hBg.out (by injection e))))
        have hlt' : (j : Int) < m := by omega
        have hfs := Lib.hid (filt_snoc (q := fun x => !p n x) hjl)
        have hdr := Lib.hid (show L.drop (j + 1) = l.drop (j + 1) by rw [← List.drop_drop, ← List.drop_drop, hI.out.2.2.1])
        clear hLj hor hcell hfr
        cases hq : p n l[j] with
        | true =>
          rw [hq] at hc1
          have hfs := Lib.hid (show (l.take (j + 1)).filter (fun x => !p n x) = (l.take j).filter (fun x => !p n x) by rw [hfs.out, hq]; simp)
          clear hq x2 x3
          go_wp2_with (go_at_fn gf; refine hc1.out.mono ?_; rintro e w' ⟨rfl, rfl⟩)
          go_roundw
          case rel => exact ⟨i, j + 1, rfl, by go_num, by omega, by omega, L, Lib.hid ⟨hI.out.1, by rw [hfs.out]; exact hI.out.2.1, hdr.out, hI.out.2.2.2.1, hI.out.2.2.2.2⟩⟩
          case measure => simp [intOf]; omega
        | false =>
          rw [hq] at hc1
          have hfs := Lib.hid (show (l.take (j + 1)).filter (fun x => !p n x) = (l.take j).filter (fun x => !p n x) ++ [l[j]] by rw [hfs.out, hq]; simp)
          clear hq
          go_wp2_with (go_at_fn gf; refine hc1.out.mono ?_; rintro e w' ⟨rfl, rfl⟩)
          go_roundw
          case rel =>
            refine ⟨i + 1, j + 1, by go_num, by go_num, by omega, by omega, L.set i l[j], Lib.hid ⟨by rw [List.length_set]; exact hI.out.1, ?_, ?_, hI.out.2.2.2.1.setI l[j], hI.out.2.2.2.2.trans ⟨rfl, rfl, rfl, by simp, fun k _ hne => Below.heap_setCell _ _ _ _ (fun e => hne (by rw [e]))⟩⟩⟩
            · rw [hfs.out, ← hI.out.2.1, List.take_add_one, List.getElem?_set_self (by have := hI.out.1; omega), List.take_set_of_le (Nat.le_refl _)]; rfl
            · rw [List.drop_set_of_lt (by omega)]; exact hdr.out
          case measure => simp [intOf]; omega
      · obtain rfl : j = m := by omega
        have hci := hcc.out
        rw [← Hm.out] at hci
        have hic : ¬ c = i := by omega
        have hij' : (i : Int) ≤ j := by omega
        have hic2 : i ≤ c := by omega
        have hic3 : (i : Int) ≤ c := by omega
        have hor := OwR.int_iff.1 hI.out.2.2.2.1
        rw [hI.out.1] at hor
        have hcell : ∀ t, t < j → (wr.cell? ⟨g, t, none⟩).isSome = true := fun t ht => by
          have := hor.cells (g := g) rfl t (.int .i64 (L[t]'(by have := hI.out.1; omega))) (by rw [List.getElem?_map, List.getElem?_eq_getElem (by have := hI.out.1; omega)]; rfl)
          rw [Addr.add_lit, Nat.zero_add] at this
          rw [this]; rfl
        have hfr : ∀ t, wr.frozen? ⟨g, t, none⟩ = false := fun t => by
          rcases hor.2 with ⟨e, _⟩ | ⟨g', cap, cur, e, _, hg, _⟩
          · cases e
          · cases e; exact frozen_of_row wr g t cur _ hg
        have hclr : ∀ ty, (Builtin.clear_ #[37] ty #[.slice (some ⟨g, i, none⟩) (j - i) (c - i)]).run Try.prog wr = .ok (.tuple #[]) (wr.setCells g i (List.replicate (j - i) (.int .i64 0))) := fun ty =>
          Lib.run_clear_slice (P := Try.prog) wr 37 3 ty (.int .i64 0) Try.underlying37 (fun w => by kernel_rfl) rfl rfl g i (j - i) (c - i) (by omega) (fun t ht => hcell _ (by omega)) (fun t _ => hfr _)
        obtain ⟨xs', q1, q2, q3⟩ := ownsRow_setCells (List.replicate (j - i) (.int .i64 0)) i wr _ hor
        have hfin := Lib.hid (show OwR (wr.setCells g i (List.replicate (j - i) (.int .i64 0))) M base 3 (.slice (some ⟨g, 0, none⟩) i c) (l.filter fun x => !p n x) by
          have hcut := ownsRow_cut q1 (i := i) (by omega)
          have hl1 : (l.filter fun x => !p n x) = L.take i := by
            have := hI.out.2.1
            rw [this, Hm.out, List.take_length]
          rw [OwR.int_iff, hl1, List.length_take, hI.out.1, Nat.min_eq_left (by omega), List.map_take]
          rw [Nat.mul_one, q2] at hcut
          exact hcut)
        have hgr := Lib.hid (hI.out.2.2.2.2.trans q3)
        have Hclr := Lib.hid hclr
        clear hor hcell hfr q1 q2 q3 hclr hci eg
        go_wp2_with (with_reducible refine wpList_clear_R rfl (.tmp 38) _ rfl rfl (Hclr.out _) ?_)
        go_ret
        exact ⟨_, rfl, hfin.out, hgr.out, rfl⟩
end Go.Proofs.Ytombdkdidnoomaa
