/-
lock.Write.
-/
import Derived.Test.YtombdkdidnoomaaLRead
namespace Go.Proofs.Ytombdkdidnoomaa
open Go.RowKit
attribute [local go_sem ↓] Go.wp_at_zero Go.wp_at_succ

/-- Somebody writes the i-th one. -/
def writeR (n : List Lk) (i : Nat) (id : Int) : List Lk × Int :=
  if ((n.getD i lk0).writer ≠ -1 ∧ (n.getD i lk0).writer ≠ id) ∨ (n.getD i lk0).reads.any (fun x => x != id) = true then ([], 22)
  else (n.set i ⟨(n.getD i lk0).lba, [], id⟩, 0)
def writeL (l : List Lk) (id lba : Int) : List Lk × Int :=
  if okL l = false ∨ id < 0 ∨ lba < 0 then ([], 1)
  else if atB l lba = false ∧ 64 ≤ l.length then ([], 2)
  else writeR (nxtL l lba) (atN l lba) id

theorem DL.setw {w : World} {base g n c j : Nat} {l : List Lk} {vs : List Value} (y : Int) (h : DL w (fun _ => True) base (.slice (some ⟨g, 0, none⟩) n c) l l.length vs) (hj : j < l.length) :
    DL (w.setCell ⟨g, j * 3 + 2, none⟩ (.int .i64 y)) (fun _ => True) base (.slice (some ⟨g, 0, none⟩) n c) (l.set j { l[j] with writer := y }) (l.set j { l[j] with writer := y }).length vs := by
  have hrow_ne : ∀ (i b : Nat) (s : Value), i < l.length → vs[i]? = some s → s.ownBlock = some b → b ≠ g := fun i b s hi hs e e2 => by
    have := h.row_ne hi hs e
    exact this (by rw [e2]; rfl)
  obtain ⟨hl, hrow, hel, hdis⟩ := h
  have hn : n = l.length := by
    rcases hrow.2 with ⟨e, _⟩ | ⟨g', cap, cur, e, _⟩ <;> cases e; rfl
  subst hn
  have hset := ownsRow_set hrow (p := j * 3 + 2) (.int .i64 y)
  rw [cl_setW y (List.getElem?_eq_getElem hj)] at hset
  have hkeep : w.grownBy (w.setCell ⟨g, j * 3 + 2, none⟩ (.int .i64 y)) (some g) := ⟨rfl, rfl, rfl, by simp, fun i _ hne => Below.heap_setCell _ _ _ _ (fun e => hne (by rw [e]))⟩
  rw [List.length_set]
  refine ⟨by rw [List.length_set]; exact hl, by rw [List.length_set]; exact hset, fun i x s hx hs => ⟨fun hi => ?_, fun h' => absurd (List.getElem?_eq_some_iff.1 hx).1 (by rw [List.length_set]; omega)⟩, hdis⟩
  have h1 := (hel i l[i] s (List.getElem?_eq_getElem hi) hs).1 hi
  have h2 := h1.kept' hkeep (fun e => hrow_ne i g s hi hs e rfl)
  have hxr : x.reads = l[i].reads := by
    by_cases hij : i = j
    · subst hij
      rw [List.getElem?_set_self hj] at hx
      injection hx with hx
      rw [← hx]
    · rw [List.getElem?_set_ne (Ne.symm hij), List.getElem?_eq_getElem hi] at hx
      injection hx with hx
      rw [← hx]
  rw [hxr]
  exact h2

set_option maxHeartbeats 8000000 in
theorem write_any (v : Value) (l : List Lk) (id lba : Int) (w : World) (M : Ms) (h : SlR w M v l) (hl : l.length ≤ 1000000) (hb : ∀ x ∈ l, x.reads.length ≤ 1000000000) (hbd : BdL l) (hx1 : lba ≤ mI) :
    Calls Try.prog 9 #[v, .int .i64 id, .int .i64 lba] w fun e w' => ∃ r, e = .returned (.tuple #[r, .int .i64 (writeL l id lba).2]) ∧ DeepL w' w.heap.size r (writeL l id lba).1 ∧ Below w.heap.size w w' := by
  have hbx := (Below.refl w.heap.size w).alloc (Nat.le_refl _) (.cells #[.int .i64 id] 3)
  have hblk := Blk.new w 3 #[.int .i64 id]
  obtain ⟨w0, hw0⟩ : ∃ w0, w0 = w.alloc (.cells #[.int .i64 id] 3) := ⟨_, rfl⟩
  rw [← hw0] at hbx hblk
  have hck := Lib.hid (check_any v l w0 M (h.mono (Keep.below hbx)) hl hb)
  obtain ⟨a, c, rfl⟩ := h.form
  have HX := Lib.hid hbx
  have hc0 : w0.cell? ⟨w.heap.size, 0, none⟩ = some (.int .i64 id) := by rw [hblk.cell]; rfl
  have HC0 := Lib.hid hc0
  have hbl := Lib.hid hblk.lt
  have HK := Lib.hid (fun w1 (hB : Below w0.heap.size w0 w1) => h.mono (Keep.below (hbx.trans (hB.mono hbx.size))))
  have Hw0 := Lib.hid hw0
  clear hw0 hc0
  have hup : ∀ {w2 w3 : World}, Below w.heap.size w w2 → Below w2.heap.size w2 w3 → Below w.heap.size w w3 := fun h1 h2 => h1.trans (h2.mono h1.size)
  cases hok : okL l with
  | false =>
    have hE := Lib.hid (show writeL l id lba = ([], 1) by simp [writeL, hok])
    rw [hok] at hck
    clear h hb hbd hok hbx hblk hup
    rw [hE.out]
    go_enter Try.func9, Try.ntmps9
    go_wp2_with fail
    rw [← Hw0.out]
    refine hck.out.mono ?_
    rintro e w2 ⟨rfl, hB2⟩
    have HB2 := Lib.hid (HX.out.trans (hB2.mono HX.out.size))
    have x0 := below_cell hB2 HC0.out
    have HB2' := Lib.hid hB2
    clear hB2
    go_wp2
    go_ret2
    exact ⟨_, rfl, DeepL.nil _ _, HB2.out⟩
  | true =>
  rw [hok] at hck
  by_cases hneg : id < 0 ∨ lba < 0
  · have hE := Lib.hid (show writeL l id lba = ([], 1) by simp [writeL, hneg])
    clear h hb hbd hok hbx hblk hup
    rw [hE.out]
    by_cases h1 : id < 0
    · clear hneg
      go_enter Try.func9, Try.ntmps9
      go_wp2_with fail
      rw [← Hw0.out]
      refine hck.out.mono ?_
      rintro e w2 ⟨rfl, hB2⟩
      have HB2 := Lib.hid (HX.out.trans (hB2.mono HX.out.size))
      have x0 := below_cell hB2 HC0.out
      have HB2' := Lib.hid hB2
      clear hB2
      go_wp2
      go_ret2
      exact ⟨_, rfl, DeepL.nil _ _, HB2.out⟩
    · have h2 : lba < 0 := by omega
      clear hneg
      go_enter Try.func9, Try.ntmps9
      go_wp2_with fail
      rw [← Hw0.out]
      refine hck.out.mono ?_
      rintro e w2 ⟨rfl, hB2⟩
      have HB2 := Lib.hid (HX.out.trans (hB2.mono HX.out.size))
      have x0 := below_cell hB2 HC0.out
      have HB2' := Lib.hid hB2
      clear hB2
      go_wp2
      go_ret2
      exact ⟨_, rfl, DeepL.nil _ _, HB2.out⟩
  have h1 : ¬ id < 0 := by omega
  have h2 : ¬ lba < 0 := by omega
  have h0 : 0 ≤ lba := by omega
  have HR := Lib.hid (okL_ris' hok)
  by_cases hfull : atB l lba = false ∧ 64 ≤ l.length
  · have hE := Lib.hid (show writeL l id lba = ([], 2) by simp only [writeL]; rw [if_neg (by simp [hok, h1, h2]), if_pos hfull])
    have hop := Lib.hid (fun w1 (hB : Below w0.heap.size w0 w1) => opn_full (.slice a l.length c) l lba w1 M (HK.out w1 hB) HR.out hbd h0 hx1 hl hb hfull.1 hfull.2)
    clear h hb hbd hok hneg hfull hbx hblk hup
    rw [hE.out]
    go_enter Try.func9, Try.ntmps9
    go_wp2_with fail
    rw [← Hw0.out]
    refine hck.out.mono ?_
    rintro e w2 ⟨rfl, hB2⟩
    have HB2 := Lib.hid (HX.out.trans (hB2.mono HX.out.size))
    have x0 := below_cell hB2 HC0.out
    have HB2' := Lib.hid hB2
    clear hB2
    go_wp2_with (go_at_call 22; go_must (refine (hop.out _ HB2'.out).mono ?_); rintro e w3 ⟨rfl, hB3⟩)
    go_ret2
    exact ⟨_, rfl, DeepL.nil _ _, HB2.out.trans (hB3.mono HB2.out.size)⟩
  have hop := Lib.hid (fun w1 (hB : Below w0.heap.size w0 w1) => opn_any (.slice a l.length c) l lba w1 M (HK.out w1 hB) HR.out hbd h0 hx1 hl hb (by
    cases hh : atB l lba with
    | true => exact .inl rfl
    | false => right; rcases Nat.lt_or_ge l.length 64 with h3 | h3
               · exact h3
               · exact absurd ⟨hh, h3⟩ hfull))
  have hi := nxtL_lt (t := lba) HR.out
  have hN64 : (nxtL l lba).length ≤ 65 := by have := nxtL_len (l := l) (t := lba); have := okL_len hok; omega
  obtain ⟨hkr, hk8⟩ := nxtL_one hok (List.getElem_mem hi)
  have HE := Lib.hid (show writeL l id lba = writeR (nxtL l lba) (atN l lba) id by
    simp only [writeL]
    rw [if_neg (by simp [hok, h1, h2]), if_neg hfull])
  clear h hb hbd hok hneg hfull hkr HR hbx hblk hup
  rw [HE.out]
  clear HE
  generalize hNN : nxtL l lba = N at *
  generalize atN l lba = i at *
  have eg : ∀ args w, (callFunc 25 args).run Try.prog w = .ok (.enter 25 args) w := enters_of Try.func25 (by kernel_rfl) rfl
  have Heg := Lib.hid eg
  clear eg hNN
  go_enter Try.func9, Try.ntmps9
  go_wp2_with fail
  rw [← Hw0.out]
  refine hck.out.mono ?_
  rintro e w2 ⟨rfl, hB2⟩
  have HB2 := Lib.hid (HX.out.trans (hB2.mono HX.out.size))
  have x0 := below_cell hB2 HC0.out
  have HB2' := Lib.hid hB2
  clear hB2
  go_wp2_with fail
  refine (hop.out _ HB2'.out).mono ?_
  rintro e w3 ⟨r3, rfl, hD3, hB3⟩
  obtain ⟨vs, hD⟩ := hD3
  obtain ⟨A3, c3, rfl⟩ := hD.form
  obtain ⟨g, r, rfl, hgb, hgw, hv, y0, y1, y2, hfz, Ar, Cr, rfl⟩ := hD.cells hi
  have hOr := (hD.2.2.1 i _ _ (List.getElem?_eq_getElem hi) hv).1 hi
  have x3 := below_cell hB3 x0
  have hany := Lib.hid (cfI_any 25 (fun n x => x != n) Heg.out other_any w.heap.size id (.slice Ar N[i].reads.length Cr) N[i].reads w3.drew noM ((hOr.below (belowN w3 1)).sl (fun _ _ h => h)) x3 (by omega))
  have HB3 := Lib.hid (HB2.out.trans (hB3.mono HB2.out.size))
  have HD := Lib.hid hD
  have HOr := Lib.hid hOr
  have Hv := Lib.hid hv
  have HB2s := Lib.hid HB2.out.size
  have Hgb := Lib.hid (show w.heap.size ≤ g from Nat.le_trans HB2.out.size hgb)
  have Hgne := Lib.hid (show w.heap.size ≠ g from fun e => by
    have h5 : w.heap.size < w2.heap.size := Nat.lt_of_lt_of_le hbl.out HB2'.out.size
    omega)
  have hi' : (i : Int) < N.length := by omega
  have Hbase := Lib.hid (show ∀ (W : World) (r : Value) (L : List Lk), DeepL W w2.heap.size r L → DeepL W w.heap.size r L from fun W r L ⟨us, u1, u2, u3, u4⟩ =>
    ⟨us, u1, ownsRow_base u2 HB2s.out, fun j x s hx hs => ⟨fun hj => ((u3 j x s hx hs).1 hj).mono_base HB2s.out, (u3 j x s hx hs).2⟩, u4⟩)
  clear hD hOr hB3 hck hop hv hgb x0
  have hS := Lib.hid (show w3.drew.cell? ⟨g, i * 3 + 2, none⟩ = some (.int .i64 N[i].writer) ∧ w3.drew.cell? ⟨g, i * 3 + 1, none⟩ = some (.slice Ar N[i].reads.length Cr) ∧ w3.drew.cell? ⟨w.heap.size, 0, none⟩ = some (.int .i64 id) from ⟨y2, y1, x3⟩)
  have hS' := Lib.hid (And.intro y1 (And.intro y2 x3))
  have hF := Lib.hid hfz
  clear y0 y1 y2 x3 hfz
  go_wp2_with fail
  refine rp_enter [3, 9, 10, 17] (fun w' => w'.cell? ⟨g, i * 3 + 2, none⟩ = some (.int .i64 N[i].writer) ∧ w'.cell? ⟨g, i * 3 + 1, none⟩ = some (.slice Ar N[i].reads.length Cr) ∧ w'.cell? ⟨w.heap.size, 0, none⟩ = some (.int .i64 id)) (by kernel_rfl) ?_
  by_cases hC : N[i].writer ≠ -1 ∧ N[i].writer ≠ id
  · have e1 : (N[i].writer != -1) = true := by simpa using hC.1
    have e2 : (N[i].writer != id) = true := by simpa using hC.2
    have hR := Lib.hid (show writeR N i id = ([], 22) by simp only [writeR, getD_lk hi]; rw [if_pos (.inl hC)])
    clear hC
    apply rp_pure 0 rfl (by kernel_rfl) (fun _ _ _ h => h) rfl
    · (intro W; go_simp; try rfl)
    · (go_simp; try rfl)
    apply rp_pure 1 rfl (by kernel_rfl) (fun _ _ _ h => h) rfl
    · (intro W; go_simp; try rfl)
    · (go_simp; try rfl)
    apply rp_pure 2 rfl (by kernel_rfl) (fun _ _ _ h => h) rfl
    · (intro W; go_simp; try rfl)
    · (go_simp; try rfl)
    apply rp_take 3 rfl (by kernel_rfl) (fun _ _ _ h => h) (hS.out) rfl
    · (rintro W ⟨s0, s1, s2⟩; go_simp; try rfl)
    · (go_simp; try rfl)
    apply rp_pure 4 rfl (by kernel_rfl) (fun _ _ _ h => h) rfl
    · (intro W; go_simp; try rfl)
    · (go_simp; try rfl)
    apply rp_pure 5 rfl (by kernel_rfl) (fun _ _ _ h => h) rfl
    · (intro W; go_simp; try rfl)
    · (go_simp; try rfl)
    apply rp_pure 6 rfl (by kernel_rfl) (fun _ _ _ h => h) rfl
    · (intro W; go_simp; try rfl)
    · (go_simp; try rfl)
    apply rp_pure 7 rfl (by kernel_rfl) (fun _ _ _ h => h) rfl
    · (intro W; go_simp; try rfl)
    · (go_simp; try rfl)
    apply rp_pure 8 rfl (by kernel_rfl) (fun _ _ _ h => h) rfl
    · (intro W; go_simp; try rfl)
    · (go_simp; try rfl)
    apply rp_take 9 rfl (by kernel_rfl) (fun _ _ _ h => h) (hS.out) rfl
    · (rintro W ⟨s0, s1, s2⟩; go_simp; try rfl)
    · (go_simp; try rfl)
    apply rp_take 10 rfl (by kernel_rfl) (fun _ _ _ h => h) (hS.out) rfl
    · (rintro W ⟨s0, s1, s2⟩; go_simp; try rfl)
    · (go_simp; try rfl)
    apply rp_pure 11 rfl (by kernel_rfl) (fun _ _ _ h => h) rfl
    · (intro W; go_simp; try rfl)
    · (go_simp; try rfl)
    apply rp_pure 12 rfl (by kernel_rfl) (fun _ _ _ h => h) rfl
    · (intro W; go_simp; try rfl)
    · (go_simp; try rfl)
    apply rp_pure 13 rfl (by kernel_rfl) (fun _ _ _ h => h) rfl
    · (intro W; go_simp; try rfl)
    · (go_simp; try rfl)
    apply rp_skip 14 rfl (by kernel_rfl) (fun _ _ _ h => h) rfl
    · (go_simp; try rfl)
    apply rp_skip 15 rfl (by kernel_rfl) (fun _ _ _ h => h) rfl
    · (go_simp; try rfl)
    apply rp_skip 16 rfl (by kernel_rfl) (fun _ _ _ h => h) rfl
    · (go_simp; try rfl)
    apply rp_skip 17 rfl (by kernel_rfl) (fun _ _ _ h => h) rfl
    · (go_simp; try rfl)
    apply rp_skip 18 rfl (by kernel_rfl) (fun _ _ _ h => h) rfl
    · (go_simp; try rfl)
    apply rp_skip 19 rfl (by kernel_rfl) (fun _ _ _ h => h) rfl
    · (go_simp; try rfl)
    apply rp_pure 20 rfl (by kernel_rfl) (fun _ _ _ h => h) rfl
    · (intro W; go_simp; try rfl)
    · (go_simp; try rfl)
    refine rp_done (by kernel_rfl) ?_
    go_wp2
    go_ret2
    rw [hR.out]
    exact ⟨_, rfl, DeepL.nil _ _, HB3.out.trans ((belowN w3 1).mono HB3.out.size)⟩
  have hC := Lib.hid hC
  by_cases hA : N[i].writer = -1
  · have e1 : (N[i].writer != -1) = false := by simp [hA]
    clear hA
    apply rp_pure 0 rfl (by kernel_rfl) (fun _ _ _ h => h) rfl
    · (intro W; go_simp; try rfl)
    · (go_simp; try rfl)
    apply rp_pure 1 rfl (by kernel_rfl) (fun _ _ _ h => h) rfl
    · (intro W; go_simp; try rfl)
    · (go_simp; try rfl)
    apply rp_pure 2 rfl (by kernel_rfl) (fun _ _ _ h => h) rfl
    · (intro W; go_simp; try rfl)
    · (go_simp; try rfl)
    apply rp_take 3 rfl (by kernel_rfl) (fun _ _ _ h => h) (hS.out) rfl
    · (rintro W ⟨s0, s1, s2⟩; go_simp; try rfl)
    · (go_simp; try rfl)
    apply rp_pure 4 rfl (by kernel_rfl) (fun _ _ _ h => h) rfl
    · (intro W; go_simp; try rfl)
    · (go_simp; try rfl)
    apply rp_pure 5 rfl (by kernel_rfl) (fun _ _ _ h => h) rfl
    · (intro W; go_simp; try rfl)
    · (go_simp; try rfl)
    apply rp_skip 6 rfl (by kernel_rfl) (fun _ _ _ h => h) rfl
    · (go_simp; try rfl)
    apply rp_skip 7 rfl (by kernel_rfl) (fun _ _ _ h => h) rfl
    · (go_simp; try rfl)
    apply rp_skip 8 rfl (by kernel_rfl) (fun _ _ _ h => h) rfl
    · (go_simp; try rfl)
    apply rp_skip 9 rfl (by kernel_rfl) (fun _ _ _ h => h) rfl
    · (go_simp; try rfl)
    apply rp_skip 10 rfl (by kernel_rfl) (fun _ _ _ h => h) rfl
    · (go_simp; try rfl)
    apply rp_skip 11 rfl (by kernel_rfl) (fun _ _ _ h => h) rfl
    · (go_simp; try rfl)
    apply rp_pure 12 rfl (by kernel_rfl) (fun _ _ _ h => h) rfl
    · (intro W; go_simp; try rfl)
    · (go_simp; try rfl)
    apply rp_pure 13 rfl (by kernel_rfl) (fun _ _ _ h => h) rfl
    · (intro W; go_simp; try rfl)
    · (go_simp; try rfl)
    apply rp_pure 14 rfl (by kernel_rfl) (fun _ _ _ h => h) rfl
    · (intro W; go_simp; try rfl)
    · (go_simp; try rfl)
    apply rp_pure 15 rfl (by kernel_rfl) (fun _ _ _ h => h) rfl
    · (intro W; go_simp; try rfl)
    · (go_simp; try rfl)
    apply rp_pure 16 rfl (by kernel_rfl) (fun _ _ _ h => h) rfl
    · (intro W; go_simp; try rfl)
    · (go_simp; try rfl)
    apply rp_take 17 rfl (by kernel_rfl) (fun _ _ _ h => h) (hS.out) rfl
    · (rintro W ⟨s0, s1, s2⟩; go_simp; try rfl)
    · (go_simp; try rfl)
    apply rp_pure 18 rfl (by kernel_rfl) (fun _ _ _ h => h) rfl
    · (intro W; go_simp; try rfl)
    · (go_simp; try rfl)
    refine rp_only 19 (by kernel_rfl) rfl (fun K hK => ?_)
    go_simp
    ((with_reducible refine hany.out.mono ?_); rintro q w4 ⟨rfl, rfl⟩)
    cases hq : N[i].reads.any (fun x => x != id) with
    | true =>
      have hR := Lib.hid (show writeR N i id = ([], 22) by simp only [writeR, getD_lk hi]; rw [if_pos (.inr hq)])
      clear hq
      refine hK _ _ ⟨fun _ _ => hS.out, ?_⟩; clear hK K
      apply rp_pure 20 rfl (by kernel_rfl) (fun _ _ _ h => h) rfl
      · (intro W; go_simp; try rfl)
      · (go_simp; try rfl)
      refine rp_done (by kernel_rfl) ?_
      go_wp2
      go_ret2
      rw [hR.out]
      exact ⟨_, rfl, DeepL.nil _ _, HB3.out.trans ((belowN w3 1).mono HB3.out.size)⟩
    | false =>
      have hR := Lib.hid (show writeR N i id = (N.set i ⟨N[i].lba, [], id⟩, 0) by simp only [writeR, getD_lk hi]; rw [if_neg (fun h => h.elim hC.out (fun h => by rw [hq] at h; cases h))])
      clear hq
      refine hK _ _ ⟨fun _ _ => hS.out, ?_⟩; clear hK K
      apply rp_pure 20 rfl (by kernel_rfl) (fun _ _ _ h => h) rfl
      · (intro W; go_simp; try rfl)
      · (go_simp; try rfl)
      refine rp_done (by kernel_rfl) ?_
      go_wp2_with fail
      have hT := Lib.hid (show (w3.drew.drew).cell? ⟨w.heap.size, 0, none⟩ = some (.int .i64 id) from hS.out.2.2)
      refine rp_enter [2] (fun w' => w'.cell? ⟨w.heap.size, 0, none⟩ = some (.int .i64 id)) (by kernel_rfl) ?_
      apply rp_pure 0 rfl (by kernel_rfl) (fun _ _ _ h => h) rfl
      · (intro W; go_simp; try rfl)
      · (go_simp; try rfl)
      apply rp_pure 1 rfl (by kernel_rfl) (fun _ _ _ h => h) rfl
      · (intro W; go_simp; try rfl)
      · (go_simp; try rfl)
      apply rp_take 2 rfl (by kernel_rfl) (fun _ _ _ h => h) (hT.out) rfl
      · (rintro W s0; go_simp; try rfl)
      · (go_simp; try rfl)
      apply rp_pure 3 rfl (by kernel_rfl) (fun _ _ _ h => h) rfl
      · (intro W; go_simp; try rfl)
      · (go_simp; try rfl)
      apply rp_pure 4 rfl (by kernel_rfl) (fun _ _ _ h => h) rfl
      · (intro W; go_simp; try rfl)
      · (go_simp; try rfl)
      refine rp_only 5 (by kernel_rfl) rfl (fun K hK => ?_)
      have y1 : (w3.drew.drew).cell? ⟨g, i * 3 + 1, none⟩ = some (.slice Ar N[i].reads.length Cr) := hS'.out.1
      have y2 : (w3.drew.drew).frozen? ⟨g, i * 3 + 1, none⟩ = false := hF.out _
      go_simp
      have hU := DL.upd (r' := .slice none 0 0) (m := []) HD.out hi Hv.out (World.grownBy.refl w3 _) (OwR.nil _ _ _ _) (fun b hb => by simp [Value.ownBlock] at hb)
      obtain ⟨g', r', eg', -, -, -, z0, z1, z2, zf, -⟩ := hU.cells (j := i) (by rw [List.length_set]; exact hi)
      simp only [Option.some.injEq, Addr.mk.injEq, and_true] at eg'
      subst eg'
      have hU2 := Lib.hid (hU.setw id (by rw [List.length_set]; exact hi))
      have zf2 := zf (i * 3 + 2)
      have hT2 := Lib.hid (show ((w3.setCell ⟨g, i * 3 + 1, none⟩ (.slice none 0 0)).drew.drew).cell? ⟨w.heap.size, 0, none⟩ = some (.int .i64 id) from (World.cell?_of_block (w := w3) (w' := w3.setCell ⟨g, i * 3 + 1, none⟩ (.slice none 0 0)) (a := ⟨w.heap.size, 0, none⟩) (Below.heap_setCell _ _ _ _ Hgne.out)).trans hS'.out.2.2)
      clear hU zf z0 z1 y1 y2
      refine hK _ _ ⟨fun _ _ => hT2.out, ?_⟩; clear hK K
      apply rp_pure 6 rfl (by kernel_rfl) (fun _ _ _ h => h) rfl
      · (intro W; go_simp; try rfl)
      · (go_simp; try rfl)
      apply rp_pure 7 rfl (by kernel_rfl) (fun _ _ _ h => h) rfl
      · (intro W; go_simp; try rfl)
      · (go_simp; try rfl)
      refine rp_only 8 (by kernel_rfl) rfl (fun K hK => ?_)
      obtain ⟨W1, hW1⟩ : ∃ W1, W1 = w3.setCell ⟨g, i * 3 + 1, none⟩ (.slice none 0 0) := ⟨_, rfl⟩
      rw [← hW1] at z2 zf2 ⊢
      have HW1 := Lib.hid hW1
      clear hW1
      go_simp
      refine hK _ _ ⟨fun _ _ => ?_, ?_⟩
      · exact (World.cell?_of_block (w := W1) (w' := W1.setCell ⟨g, i * 3 + 2, none⟩ (.int .i64 id)) (a := ⟨w.heap.size, 0, none⟩) (Below.heap_setCell _ _ _ _ Hgne.out)).trans (by rw [HW1.out]; exact hT2.out)
      clear hK K
      refine rp_done (by kernel_rfl) ?_
      rw [HW1.out]
      go_wp2
      go_ret2
      rw [hR.out]
      have hD2 : DeepL ((w3.setCell ⟨g, i * 3 + 1, none⟩ (.slice none 0 0)).setCell ⟨g, i * 3 + 2, none⟩ (.int .i64 id)) w2.heap.size (.slice (some ⟨g, 0, none⟩) N.length c3) (N.set i ⟨N[i].lba, [], id⟩) := by
        have h := hU2.out
        simp only [List.getElem_set_self, List.set_set] at h
        exact ⟨_, h⟩
      refine ⟨_, rfl, Hbase.out _ _ _ (hD2.below (belowN _ 2)), HB3.out.trans ⟨rfl, rfl, rfl, by simp, fun k hk => ?_⟩⟩
      exact (Below.heap_setCell _ _ _ _ (fun e => by have e' : k = g := e; have := Hgb.out; omega)).trans (Below.heap_setCell _ _ _ _ (fun e => by have e' : k = g := e; have := Hgb.out; omega))
      
      
  · have e1 : (N[i].writer != -1) = true := by simpa using hA
    have e2 : (N[i].writer != id) = false := by
      have := hC.out
      simp only [not_and, Classical.not_not] at this
      simpa using this hA
    clear hA
    apply rp_pure 0 rfl (by kernel_rfl) (fun _ _ _ h => h) rfl
    · (intro W; go_simp; try rfl)
    · (go_simp; try rfl)
    apply rp_pure 1 rfl (by kernel_rfl) (fun _ _ _ h => h) rfl
    · (intro W; go_simp; try rfl)
    · (go_simp; try rfl)
    apply rp_pure 2 rfl (by kernel_rfl) (fun _ _ _ h => h) rfl
    · (intro W; go_simp; try rfl)
    · (go_simp; try rfl)
    apply rp_take 3 rfl (by kernel_rfl) (fun _ _ _ h => h) (hS.out) rfl
    · (rintro W ⟨s0, s1, s2⟩; go_simp; try rfl)
    · (go_simp; try rfl)
    apply rp_pure 4 rfl (by kernel_rfl) (fun _ _ _ h => h) rfl
    · (intro W; go_simp; try rfl)
    · (go_simp; try rfl)
    apply rp_pure 5 rfl (by kernel_rfl) (fun _ _ _ h => h) rfl
    · (intro W; go_simp; try rfl)
    · (go_simp; try rfl)
    apply rp_pure 6 rfl (by kernel_rfl) (fun _ _ _ h => h) rfl
    · (intro W; go_simp; try rfl)
    · (go_simp; try rfl)
    apply rp_pure 7 rfl (by kernel_rfl) (fun _ _ _ h => h) rfl
    · (intro W; go_simp; try rfl)
    · (go_simp; try rfl)
    apply rp_pure 8 rfl (by kernel_rfl) (fun _ _ _ h => h) rfl
    · (intro W; go_simp; try rfl)
    · (go_simp; try rfl)
    apply rp_take 9 rfl (by kernel_rfl) (fun _ _ _ h => h) (hS.out) rfl
    · (rintro W ⟨s0, s1, s2⟩; go_simp; try rfl)
    · (go_simp; try rfl)
    apply rp_take 10 rfl (by kernel_rfl) (fun _ _ _ h => h) (hS.out) rfl
    · (rintro W ⟨s0, s1, s2⟩; go_simp; try rfl)
    · (go_simp; try rfl)
    apply rp_pure 11 rfl (by kernel_rfl) (fun _ _ _ h => h) rfl
    · (intro W; go_simp; try rfl)
    · (go_simp; try rfl)
    apply rp_pure 12 rfl (by kernel_rfl) (fun _ _ _ h => h) rfl
    · (intro W; go_simp; try rfl)
    · (go_simp; try rfl)
    apply rp_pure 13 rfl (by kernel_rfl) (fun _ _ _ h => h) rfl
    · (intro W; go_simp; try rfl)
    · (go_simp; try rfl)
    apply rp_pure 14 rfl (by kernel_rfl) (fun _ _ _ h => h) rfl
    · (intro W; go_simp; try rfl)
    · (go_simp; try rfl)
    apply rp_pure 15 rfl (by kernel_rfl) (fun _ _ _ h => h) rfl
    · (intro W; go_simp; try rfl)
    · (go_simp; try rfl)
    apply rp_pure 16 rfl (by kernel_rfl) (fun _ _ _ h => h) rfl
    · (intro W; go_simp; try rfl)
    · (go_simp; try rfl)
    apply rp_take 17 rfl (by kernel_rfl) (fun _ _ _ h => h) (hS.out) rfl
    · (rintro W ⟨s0, s1, s2⟩; go_simp; try rfl)
    · (go_simp; try rfl)
    apply rp_pure 18 rfl (by kernel_rfl) (fun _ _ _ h => h) rfl
    · (intro W; go_simp; try rfl)
    · (go_simp; try rfl)
    refine rp_only 19 (by kernel_rfl) rfl (fun K hK => ?_)
    go_simp
    ((with_reducible refine hany.out.mono ?_); rintro q w4 ⟨rfl, rfl⟩)
    cases hq : N[i].reads.any (fun x => x != id) with
    | true =>
      have hR := Lib.hid (show writeR N i id = ([], 22) by simp only [writeR, getD_lk hi]; rw [if_pos (.inr hq)])
      clear hq
      refine hK _ _ ⟨fun _ _ => hS.out, ?_⟩; clear hK K
      apply rp_pure 20 rfl (by kernel_rfl) (fun _ _ _ h => h) rfl
      · (intro W; go_simp; try rfl)
      · (go_simp; try rfl)
      refine rp_done (by kernel_rfl) ?_
      go_wp2
      go_ret2
      rw [hR.out]
      exact ⟨_, rfl, DeepL.nil _ _, HB3.out.trans ((belowN w3 1).mono HB3.out.size)⟩
    | false =>
      have hR := Lib.hid (show writeR N i id = (N.set i ⟨N[i].lba, [], id⟩, 0) by simp only [writeR, getD_lk hi]; rw [if_neg (fun h => h.elim hC.out (fun h => by rw [hq] at h; cases h))])
      clear hq
      refine hK _ _ ⟨fun _ _ => hS.out, ?_⟩; clear hK K
      apply rp_pure 20 rfl (by kernel_rfl) (fun _ _ _ h => h) rfl
      · (intro W; go_simp; try rfl)
      · (go_simp; try rfl)
      refine rp_done (by kernel_rfl) ?_
      go_wp2_with fail
      have hT := Lib.hid (show (w3.drew.drew).cell? ⟨w.heap.size, 0, none⟩ = some (.int .i64 id) from hS.out.2.2)
      refine rp_enter [2] (fun w' => w'.cell? ⟨w.heap.size, 0, none⟩ = some (.int .i64 id)) (by kernel_rfl) ?_
      apply rp_pure 0 rfl (by kernel_rfl) (fun _ _ _ h => h) rfl
      · (intro W; go_simp; try rfl)
      · (go_simp; try rfl)
      apply rp_pure 1 rfl (by kernel_rfl) (fun _ _ _ h => h) rfl
      · (intro W; go_simp; try rfl)
      · (go_simp; try rfl)
      apply rp_take 2 rfl (by kernel_rfl) (fun _ _ _ h => h) (hT.out) rfl
      · (rintro W s0; go_simp; try rfl)
      · (go_simp; try rfl)
      apply rp_pure 3 rfl (by kernel_rfl) (fun _ _ _ h => h) rfl
      · (intro W; go_simp; try rfl)
      · (go_simp; try rfl)
      apply rp_pure 4 rfl (by kernel_rfl) (fun _ _ _ h => h) rfl
      · (intro W; go_simp; try rfl)
      · (go_simp; try rfl)
      refine rp_only 5 (by kernel_rfl) rfl (fun K hK => ?_)
      have y1 : (w3.drew.drew).cell? ⟨g, i * 3 + 1, none⟩ = some (.slice Ar N[i].reads.length Cr) := hS'.out.1
      have y2 : (w3.drew.drew).frozen? ⟨g, i * 3 + 1, none⟩ = false := hF.out _
      go_simp
      have hU := DL.upd (r' := .slice none 0 0) (m := []) HD.out hi Hv.out (World.grownBy.refl w3 _) (OwR.nil _ _ _ _) (fun b hb => by simp [Value.ownBlock] at hb)
      obtain ⟨g', r', eg', -, -, -, z0, z1, z2, zf, -⟩ := hU.cells (j := i) (by rw [List.length_set]; exact hi)
      simp only [Option.some.injEq, Addr.mk.injEq, and_true] at eg'
      subst eg'
      have hU2 := Lib.hid (hU.setw id (by rw [List.length_set]; exact hi))
      have zf2 := zf (i * 3 + 2)
      have hT2 := Lib.hid (show ((w3.setCell ⟨g, i * 3 + 1, none⟩ (.slice none 0 0)).drew.drew).cell? ⟨w.heap.size, 0, none⟩ = some (.int .i64 id) from (World.cell?_of_block (w := w3) (w' := w3.setCell ⟨g, i * 3 + 1, none⟩ (.slice none 0 0)) (a := ⟨w.heap.size, 0, none⟩) (Below.heap_setCell _ _ _ _ Hgne.out)).trans hS'.out.2.2)
      clear hU zf z0 z1 y1 y2
      refine hK _ _ ⟨fun _ _ => hT2.out, ?_⟩; clear hK K
      apply rp_pure 6 rfl (by kernel_rfl) (fun _ _ _ h => h) rfl
      · (intro W; go_simp; try rfl)
      · (go_simp; try rfl)
      apply rp_pure 7 rfl (by kernel_rfl) (fun _ _ _ h => h) rfl
      · (intro W; go_simp; try rfl)
      · (go_simp; try rfl)
      refine rp_only 8 (by kernel_rfl) rfl (fun K hK => ?_)
      obtain ⟨W1, hW1⟩ : ∃ W1, W1 = w3.setCell ⟨g, i * 3 + 1, none⟩ (.slice none 0 0) := ⟨_, rfl⟩
      rw [← hW1] at z2 zf2 ⊢
      have HW1 := Lib.hid hW1
      clear hW1
      go_simp
      refine hK _ _ ⟨fun _ _ => ?_, ?_⟩
      · exact (World.cell?_of_block (w := W1) (w' := W1.setCell ⟨g, i * 3 + 2, none⟩ (.int .i64 id)) (a := ⟨w.heap.size, 0, none⟩) (Below.heap_setCell _ _ _ _ Hgne.out)).trans (by rw [HW1.out]; exact hT2.out)
      clear hK K
      refine rp_done (by kernel_rfl) ?_
      rw [HW1.out]
      go_wp2
      go_ret2
      rw [hR.out]
      have hD2 : DeepL ((w3.setCell ⟨g, i * 3 + 1, none⟩ (.slice none 0 0)).setCell ⟨g, i * 3 + 2, none⟩ (.int .i64 id)) w2.heap.size (.slice (some ⟨g, 0, none⟩) N.length c3) (N.set i ⟨N[i].lba, [], id⟩) := by
        have h := hU2.out
        simp only [List.getElem_set_self, List.set_set] at h
        exact ⟨_, h⟩
      refine ⟨_, rfl, Hbase.out _ _ _ (hD2.below (belowN _ 2)), HB3.out.trans ⟨rfl, rfl, rfl, by simp, fun k hk => ?_⟩⟩
      exact (Below.heap_setCell _ _ _ _ (fun e => by have e' : k = g := e; have := Hgb.out; omega)).trans (Below.heap_setCell _ _ _ _ (fun e => by have e' : k = g := e; have := Hgb.out; omega))
      
      
end Go.Proofs.Ytombdkdidnoomaa
