/-
lock.Twin: locks in memory of their own.
-/
import Derived.Test.YtombdkdidnoomaaLDeep
namespace Go.Proofs.Ytombdkdidnoomaa
open Go.RowKit
attribute [local go_sem ↓] Go.wp_at_zero Go.wp_at_succ

set_option maxHeartbeats 400000 in
theorem iclone_any (v : Value) (l : List Int) (w : World) (M M' : Ms) (h : SlR w M v l) (hl : l.length ≤ 1000000000) :
    Calls Try.prog 48 #[v] w fun e w' => ∃ r, e = .returned r ∧ OwR w' M' w.heap.size 3 r l ∧ Below w.heap.size w w' := by
  obtain ⟨a, c, xs, rfl, h1, h2, h3, h4⟩ := id h
  have he := fun w n => Lib.run_eql_slice_nil (P := Try.prog) w 37 3 a n c 0 0 Try.underlying37
  cases a with
  | none =>
    have hl0 : l = [] := Classical.byContradiction fun hne => by obtain ⟨b, off, e, _⟩ := h4 hne; cases e
    subst hl0
    clear h3 h4 h1 h2 h
    simp only [List.length_nil] at hl ⊢
    go_enter Try.func48, Try.ntmps48
    go_wp2
    go_ret
    exact ⟨_, rfl, OwR.nil _ _ _ _, Below.refl _ _⟩
  | some ad =>
    clear h3 h4 h1 h2
    go_enter Try.func48, Try.ntmps48
    go_wp2_with (at_builtin; go_must (refine wpList_append_R (α := Int) (M := M) (base := w.heap.size) (l := []) (m := l) (u := .slice (some ad) l.length c) rfl (by rfl) tyI (by rfl) (OwR.made _ _ _) (by rfl) (h.mono Keep.ownNew) (by simpa using hl) (by simp) ?_); intro v1 w1 ho hg hat)
    go_ret
    exact ⟨_, rfl, ho.ints, ((Below.refl _ _).alloc (Nat.le_refl _) _).grown hg (by simp) (by simp [Value.ownBlock])⟩

set_option maxHeartbeats 400000 in
theorem lclone_any (v : Value) (l : List Lk) (w : World) (M : Ms) (h : SlR w M v l) (hl : l.length ≤ 1000000000) :
    Calls Try.prog 47 #[v] w fun e w' => ∃ r, e = .returned r ∧ OwR w' M w.heap.size 39 r l ∧ Below w.heap.size w w' := by
  obtain ⟨a, c, xs, rfl, h1, h2, h3, h4⟩ := id h
  have he := fun w n => Lib.run_eql_slice_nil (P := Try.prog) w 22 39 a n c 0 0 Try.underlying22
  cases a with
  | none =>
    have hl0 : l = [] := Classical.byContradiction fun hne => by obtain ⟨b, off, e, _⟩ := h4 hne; cases e
    subst hl0
    clear h3 h4 h1 h2 h
    simp only [List.length_nil] at hl ⊢
    go_enter Try.func47, Try.ntmps47
    go_wp2
    go_ret
    exact ⟨_, rfl, OwR.nil _ _ _ _, Below.refl _ _⟩
  | some ad =>
    clear h3 h4 h1 h2
    go_enter Try.func47, Try.ntmps47
    go_wp2_with (at_builtin; go_must (refine wpList_append_R (α := Lk) (M := M) (base := w.heap.size) (l := []) (m := l) (u := .slice (some ad) l.length c) rfl (by rfl) tyL (by rfl) (OwR.made _ _ _) (by rfl) (h.mono Keep.ownNew) (by simpa using hl) (by simp) ?_); intro v1 w1 ho hg hat)
    go_ret
    exact ⟨_, rfl, ho, ((Below.refl _ _).alloc (Nat.le_refl _) _).grown hg (by simp) (by simp [Value.ownBlock])⟩

theorem OwR.kept' {w w' : World} {M : Ms} {base : Nat} {e : TypeId} {v : Value} {l : List Int} {g : Nat} (h : OwR w M base e v l) (hg : w.grownBy w' (some g)) (hne : v.ownBlock ≠ some g) : OwR w' M base e v l :=
  OwR.ints (M := fun b => b = g) ((OwR.ints h).kept hg (.inr hne) (fun b e => by injection e with e; exact e.symm))
theorem DL.start {w : World} {M : Ms} {base : Nat} {v : Value} {l : List Lk} (h : OwR w M base 39 v l) : ∃ vs, DL w M base v l 0 vs := by
  obtain ⟨xs, ho, he⟩ := h
  obtain ⟨vs, h1, rfl, h3⟩ := cl_of (he.mono fun cs x _ => Rp.mono (Keep.less fun b (hb : M b) => .inl hb))
  exact ⟨vs, h1, ho, fun j x r hx hr => ⟨fun h => absurd h (Nat.not_lt_zero _), fun _ => h3 j x r hx hr⟩, fun i j r s b hi => absurd hi (Nat.not_lt_zero _)⟩
/-- The cells of an element. -/
theorem DL.cells {w : World} {M : Ms} {base k j c n : Nat} {ad : Option Addr} {l : List Lk} {vs : List Value} (h : DL w M base (.slice ad n c) l k vs) (hj : j < l.length) :
    ∃ g r, ad = some ⟨g, 0, none⟩ ∧ base ≤ g ∧ g < w.heap.size ∧ vs[j]? = some r ∧ w.cell? ⟨g, j * 3, none⟩ = some (.int .i64 l[j].lba) ∧ w.cell? ⟨g, j * 3 + 1, none⟩ = some r ∧ w.cell? ⟨g, j * 3 + 2, none⟩ = some (.int .i64 l[j].writer) ∧ (∀ i, w.frozen? ⟨g, i, none⟩ = false) ∧ ∃ A C, r = .slice A l[j].reads.length C := by
  obtain ⟨hl, hrow, hel, _⟩ := h
  have hv : j < vs.length := by omega
  rcases id hrow.2 with ⟨e, hn⟩ | ⟨g, cap, cur, e, hb, hg, _⟩
  · cases e; omega
  · cases e
    obtain ⟨c0, c1, c2⟩ := cl_get (List.getElem?_eq_getElem hj) (List.getElem?_eq_getElem hv)
    have hc : ∀ p u, (cellsL l vs)[p]? = some u → w.cell? ⟨g, p, none⟩ = some u := fun p u hu => by
      have := hrow.cells (g := g) rfl p u hu
      rwa [Addr.add_lit, Nat.zero_add] at this
    refine ⟨g, vs[j], rfl, hb, (Array.getElem?_eq_some_iff.1 hg).1, List.getElem?_eq_getElem hv, hc _ _ c0, hc _ _ c1, hc _ _ c2, fun i => frozen_of_row w g i cur _ hg, ?_⟩
    obtain ⟨h1, h2⟩ := hel j _ _ (List.getElem?_eq_getElem hj) (List.getElem?_eq_getElem hv)
    by_cases hk : j < k
    · exact (h1 hk).form
    · exact (h2 (by omega)).form
/-- A lock's readers get a row of their own. -/
theorem DL.step {w w2 : World} {M : Ms} {base g n c k : Nat} {r' : Value} {l : List Lk} {vs : List Value} (h : DL w M base (.slice (some ⟨g, 0, none⟩) n c) l k vs) (hk : k < l.length) (hM : ∀ b, base ≤ b → M b) (hg : base ≤ g)
    (hb : Below w.heap.size w w2) (ho : OwR w2 noM w.heap.size 3 r' l[k].reads) (hbs : base ≤ w.heap.size) : ∃ vs', DL (w2.setCell ⟨g, k * 3 + 1, none⟩ r') M base (.slice (some ⟨g, 0, none⟩) n c) l (k + 1) vs' := by
  have hrow_ne : ∀ (j b : Nat) (r : Value), j < k → vs[j]? = some r → r.ownBlock = some b → b ≠ g := fun j b r hj hv hr e => by
    have := h.row_ne hj hv hr
    exact this (by rw [e]; rfl)
  obtain ⟨hl, hrow, hel, hdis⟩ := h
  have hgw : g < w.heap.size := (hrow.lt g rfl).2
  have hn : n = l.length := by
    rcases hrow.2 with ⟨e, _⟩ | ⟨g', cap, cur, e, _⟩ <;> cases e; rfl
  subst hn
  have hrow2 : w2.ownsRow base 39 3 (.slice (some ⟨g, 0, none⟩) l.length c) l.length (cellsL l vs) := hrow.kept (row := none) ⟨hb.os, hb.tape, hb.output, hb.size, fun i hi _ => hb.block i hi⟩ (.inr (by simp [Value.ownBlock]))
  have hset := ownsRow_set hrow2 (p := k * 3 + 1) r'
  rw [cl_setR] at hset
  have hkeep : w2.grownBy (w2.setCell ⟨g, k * 3 + 1, none⟩ r') (some g) := ⟨rfl, rfl, rfl, by simp, fun i _ hne => Below.heap_setCell _ _ _ _ (fun e => hne (by rw [e]))⟩
  have hr'ge : ∀ b, r'.ownBlock = some b → w.heap.size ≤ b := fun b hb' => ho.own_ge hb'
  refine ⟨vs.set k r', by rw [List.length_set]; exact hl, hset, fun j x r hx hr => ?_, fun i j r s b hi hj hij hr hs hrb => ?_⟩
  · by_cases hjk : j = k
    · subst hjk
      rw [List.getElem?_set_self (by omega)] at hr
      injection hr with hr
      subst hr
      rw [List.getElem?_eq_getElem hk] at hx
      injection hx with hx
      subst hx
      refine ⟨fun _ => (ho.mono_base hbs).kept' hkeep (fun e => ?_), fun h' => absurd h' (by omega)⟩
      have := hr'ge g e; omega
    · rw [List.getElem?_set_ne (Ne.symm hjk)] at hr
      obtain ⟨h1, h2⟩ := hel j x r hx hr
      refine ⟨fun hj => ((h1 (by omega)).below hb).kept' hkeep (fun e => hrow_ne j g r (by omega) hr e rfl), fun hj => (h2 (by omega)).mono fun b hbl hm => ⟨hm, ?_⟩⟩
      rw [Below.heap_setCell _ _ _ _ (fun e => hm (hM b (by have e' : b = g := e; omega)))]
      exact hb.block b hbl
  · have hi' : i < vs.length ∧ j < vs.length := by omega
    by_cases e1 : i = k
    · subst e1
      rw [List.getElem?_set_self (by omega)] at hr
      rw [List.getElem?_set_ne hij] at hs
      injection hr with hr
      subst hr
      intro hsb
      have := ((hel j l[j] s (List.getElem?_eq_getElem (by omega)) hs).1 (by omega)).own_lt hsb
      have := hr'ge b hrb; omega
    · rw [List.getElem?_set_ne (Ne.symm e1)] at hr
      by_cases e2 : j = k
      · subst e2
        rw [List.getElem?_set_self (by omega)] at hs
        injection hs with hs
        subst hs
        intro hsb
        have := ((hel i l[i] r (List.getElem?_eq_getElem (by omega)) hr).1 (by omega)).own_lt hrb
        have := hr'ge b hsb; omega
      · rw [List.getElem?_set_ne (Ne.symm e2)] at hs
        exact hdis i j r s b (by omega) (by omega) hij hr hs hrb

set_option maxHeartbeats 4000000 in
theorem twn_any (v : Value) (l : List Lk) (w : World) (M : Ms) (h : SlR w M v l) (hl : l.length ≤ 1000000) (hb : ∀ x ∈ l, x.reads.length ≤ 1000000000) :
    Calls Try.prog 27 #[v] w fun e w' => ∃ r, e = .returned r ∧ DeepL w' w.heap.size r l ∧ Below w.heap.size w w' := by
  have hcl := Lib.hid (lclone_any v l w (Ms.new M w.heap.size) (h.mono (Keep.fresh (Below.refl _ _))) (by omega))
  obtain ⟨a, c, rfl⟩ := h.form
  have HL := Lib.hid hb
  clear h hb
  go_enter Try.func27, Try.ntmps27
  go_wp2_with fail
  refine hcl.out.mono ?_
  rintro e w1 ⟨r1, rfl, ho1, hB1⟩
  obtain ⟨A1, c1, rfl⟩ := ho1.form
  obtain ⟨vs0, hD0⟩ := DL.start ho1
  have HD := Lib.hid hD0
  have HB1 := Lib.hid hB1
  clear hcl ho1 hD0 hB1
  go_wp2_with fail
  go_loopw [8] (fun i wr => Below w.heap.size w wr ∧ ∃ k : Nat, k ≤ l.length ∧ i = .int .i64 k ∧ Hid (∃ vs, DL wr (Ms.new M w.heap.size) w.heap.size (.slice A1 l.length c1) l k vs)) (fun i _ => l.length - (intOf i).toNat)
  case atStart => exact ⟨HB1.out, 0, Nat.zero_le _, rfl, Lib.hid ⟨_, HD.out⟩⟩
  case round =>
    obtain ⟨hB, k, hk, rfl, hO⟩ := hrel
    have HB := Lib.hid hB
    by_cases hlt : k < l.length
    · obtain ⟨vs, hDk⟩ := hO.out
      obtain ⟨g, r, rfl, hgb, hgw, hv, x1, x2, x3, hfz, Ar, Cr, rfl⟩ := hDk.cells hlt
      have hrd := (hDk.2.2.1 k l[k] _ (List.getElem?_eq_getElem hlt) hv).2 (Nat.le_refl _)
      have hc := Lib.hid (iclone_any _ l[k].reads wr _ noM hrd (HL.out _ (List.getElem_mem hlt)))
      have HDk := Lib.hid hDk
      have Hgb := Lib.hid hgb
      have hlt' : (k : Int) < l.length := by omega
      clear hDk hO hrd hB hgb
      go_wp2_with (go_at_call 48; go_must (refine hc.out.mono ?_); rintro e w2 ⟨r2, rfl, ho2, hB2⟩; obtain ⟨A2, C2, rfl⟩ := ho2.form; have HB2 := Lib.hid hB2; have HO2 := Lib.hid ho2; have y1 := below_cell hB2 x2; have y2 : w2.frozen? ⟨g, k * 3 + 1, none⟩ = false := (hB2.frozen hgw).trans (hfz _); clear hB2 ho2 x1 x2 x3 hfz)
      go_roundw
      case rel =>
        have HBt := HB.out.trans (HB2.out.mono HB.out.size)
        exact ⟨HBt.trans ⟨rfl, rfl, rfl, by simp, fun i hi => Below.heap_setCell _ _ _ _ (by have := Hgb.out; simp; omega)⟩, k + 1, by omega, by go_num, Lib.hid (DL.step HDk.out hlt (fun b hb => .inr hb) Hgb.out HB2.out HO2.out HB.out.size)⟩
      case measure => simp [intOf]; omega
    · obtain rfl : k = l.length := by omega
      go_wp2
      go_ret
      refine ⟨_, rfl, ?_, HB.out⟩
      obtain ⟨vs, hDk⟩ := hO.out
      exact ⟨vs, hDk.1, hDk.2.1, fun j x r hx hr => ⟨((hDk.2.2.1 j x r hx hr).1), fun hj => absurd (List.getElem?_eq_some_iff.1 hx).1 (by omega)⟩, hDk.2.2.2⟩
end Go.Proofs.Ytombdkdidnoomaa
