/-
lock.Drop.
-/
import Derived.Test.YtombdkdidnoomaaLDel
namespace Go.Proofs.Ytombdkdidnoomaa
open Go.RowKit
attribute [local go_sem ↓] Go.wp_at_zero Go.wp_at_succ

def dropK (id : Int) (x : Lk) : Lk := ⟨x.lba, x.reads.filter fun y => !(y == id), if x.writer = id then -1 else x.writer⟩
def liveK (x : Lk) : Bool := decide (0 < x.reads.length) || (x.writer != -1)
def dropF (l : List Lk) (id : Int) : List Lk := (l.map (dropK id)).filter liveK
/-- Somebody has nothing any more. -/
def dropL (l : List Lk) (id : Int) : List Lk × Int := if okL l = false ∨ id < 0 then ([], 1) else (dropF l id, 0)
theorem dropF_snoc {l : List Lk} {id : Int} {j : Nat} (hj : j < l.length) : dropF (l.take (j + 1)) id = if liveK (dropK id l[j]) = true then dropF (l.take j) id ++ [dropK id l[j]] else dropF (l.take j) id := by
  have e : l.take (j + 1) = l.take j ++ [l[j]] := by rw [List.take_add_one, List.getElem?_eq_getElem hj]; rfl
  unfold dropF
  rw [e, List.map_append, List.filter_append]
  by_cases h : liveK (dropK id l[j]) = true <;> simp [h]
theorem dropF_len (l : List Lk) (id : Int) : (dropF l id).length ≤ l.length := by
  have := List.length_filter_le liveK (l.map (dropK id))
  simpa [dropF] using this

/-- The blocks of the readers from the i-th lock on: they may be written. -/
def MD (vs : List Value) (i : Nat) : Ms := fun b => ∃ (j : Nat) (r : Value), i ≤ j ∧ vs[j]? = some r ∧ r.ownBlock = some b
theorem OwR.box {α : Type} [Rp α] {w w' : World} {M : Ms} {base g : Nat} {e : TypeId} {v : Value} {l : List α} (h : OwR w M base e v l) (hb : Below w.heap.size w w') (hg : w.heap.size ≤ g) : OwR w' (Ms.and M g) base e v l := by
  obtain ⟨xs, ho, he⟩ := h
  refine ⟨xs, ho.kept (row := none) (grown_of_below hb) (by cases v.ownBlock <;> simp), he.mono fun cs x _ => Rp.mono fun b hbl hm => ⟨fun h' => ?_, hb.block b hbl⟩⟩
  rcases h' with (h' | h') | h'
  · exact hm (.inl h')
  · omega
  · exact hm (.inr h')

theorem row_cells {w : World} {base j c n : Nat} {ad : Option Addr} {l : List Lk} {vs : List Value} (hl : vs.length = l.length) (hrow : w.ownsRow base 39 3 (.slice ad n c) l.length (cellsL l vs)) (hj : j < l.length) :
    ∃ g r, ad = some ⟨g, 0, none⟩ ∧ base ≤ g ∧ g < w.heap.size ∧ vs[j]? = some r ∧ w.cell? ⟨g, j * 3, none⟩ = some (.int .i64 l[j].lba) ∧ w.cell? ⟨g, j * 3 + 1, none⟩ = some r ∧ w.cell? ⟨g, j * 3 + 2, none⟩ = some (.int .i64 l[j].writer) ∧ ∀ i, w.frozen? ⟨g, i, none⟩ = false := by
  have hv : j < vs.length := by omega
  rcases id hrow.2 with ⟨e, hn⟩ | ⟨g, cap, cur, e, hb, hg, _⟩
  · cases e; omega
  · cases e
    obtain ⟨c0, c1, c2⟩ := cl_get (List.getElem?_eq_getElem hj) (List.getElem?_eq_getElem hv)
    have hc : ∀ p u, (cellsL l vs)[p]? = some u → w.cell? ⟨g, p, none⟩ = some u := fun p u hu => by
      have := hrow.cells (g := g) rfl p u hu
      rwa [Addr.add_lit, Nat.zero_add] at this
    exact ⟨g, vs[j], rfl, hb, (Array.getElem?_eq_some_iff.1 hg).1, List.getElem?_eq_getElem hv, hc _ _ c0, hc _ _ c1, hc _ _ c2, fun i => frozen_of_row w g i cur _ hg⟩

theorem ownsRow_at {w w' : World} {base sz n : Nat} {e : TypeId} {v : Value} {xs : List Value} (h : w.ownsRow base e sz v n xs) (hb : ∀ g, v.ownBlock = some g → w'.heap[g]? = w.heap[g]?) : w'.ownsRow base e sz v n xs :=
  ⟨h.1, h.2.imp id fun ⟨g, c, cur, h1, h2, h3, r⟩ => ⟨g, c, cur, h1, h2, by rw [hb g (by rw [h1]; rfl)]; exact h3, r⟩⟩
theorem OwR.at_block {w w' : World} {M M' : Ms} {base : Nat} {e : TypeId} {v : Value} {l : List Int} (h : OwR w M base e v l) (hb : ∀ g, v.ownBlock = some g → w'.heap[g]? = w.heap[g]?) : OwR w' M' base e v l := OwR.int_iff.2 (ownsRow_at (OwR.int_iff.1 h) hb)
theorem drop_keep {w wr w5 : World} {B2 B3 g c3 i : Nat} {id : Int} {r o : Value} {l L : List Lk} {vs : List Value} {M : Ms} (hB : Below w.heap.size w wr) (h0 : w.heap.size < B2)
    (hbx : wr.cell? ⟨w.heap.size, 0, none⟩ = some (.int .i64 id)) (hrow : wr.ownsRow B2 39 3 (.slice (some ⟨g, 0, none⟩) l.length c3) l.length (cellsL l vs))
    (hel : ∀ (j : Nat) (x : Lk) (r : Value), i ≤ j → l[j]? = some x → vs[j]? = some r → OwR wr noM B2 3 r x.reads) (hdis : ∀ (j : Nat) (s : Value) (b : Nat), i < j → vs[j]? = some s → r.ownBlock = some b → s.ownBlock ≠ some b)
    (hrg : r.ownBlock ≠ some g) (hrB : ∀ b, r.ownBlock = some b → B2 ≤ b) (hog : o.ownBlock ≠ some g) (hoB : ∀ b, o.ownBlock = some b → B2 ≤ b) (ho : OwR wr M B3 39 o L)
    (h1 : w5.os = wr.os) (h2 : w5.tape = wr.tape) (h3 : w5.output = wr.output) (hk : ∀ b, b < wr.heap.size → some b ≠ r.ownBlock → some b ≠ o.ownBlock → w5.heap[b]? = wr.heap[b]?) (hs : wr.heap.size ≤ w5.heap.size) :
    Below w.heap.size w w5 ∧ w5.cell? ⟨w.heap.size, 0, none⟩ = some (.int .i64 id) ∧ w5.ownsRow B2 39 3 (.slice (some ⟨g, 0, none⟩) l.length c3) l.length (cellsL l vs) ∧
      (∀ (j : Nat) (x : Lk) (r : Value), i + 1 ≤ j → l[j]? = some x → vs[j]? = some r → OwR w5 noM B2 3 r x.reads) := by
  refine ⟨hB.trans ⟨h1, h2, h3, hs, fun k hk' => hk k (Nat.lt_of_lt_of_le hk' hB.size) (fun e => ?_) (fun e => ?_)⟩, ?_, ?_, fun j x s hj hx hs' => ?_⟩
  · have := hrB k e.symm; omega
  · have := hoB k e.symm; omega
  · have hlt := World.block_lt_of_cell? wr _ hbx
    rw [← hbx]
    refine World.cell?_of_block (hk _ hlt (fun e => ?_) (fun e => ?_))
    · have h := hrB _ e.symm; exact absurd (show w.heap.size < w.heap.size from Nat.lt_of_lt_of_le h0 h) (Nat.lt_irrefl _)
    · have h := hoB _ e.symm; exact absurd (show w.heap.size < w.heap.size from Nat.lt_of_lt_of_le h0 h) (Nat.lt_irrefl _)
  · refine ownsRow_at hrow fun g' e => ?_
    have e' : g = g' := by simpa [Value.ownBlock] using e
    subst e'
    exact hk g (hrow.lt g rfl).2 (fun e => hrg e.symm) (fun e => hog e.symm)
  · have h5 := hel j x s (by omega) hx hs'
    refine h5.at_block fun b hb => hk b (h5.own_lt hb) (fun e => hdis j s b (by omega) hs' e.symm hb) (fun e => ?_)
    obtain ⟨xs, o1, _⟩ := h5
    obtain ⟨ys, o2, _⟩ := ho
    rcases ownsRow_ne o1 o2 (by decide) with h | h
    · rw [h] at hb; cases hb
    · exact h (by rw [hb]; exact e)

set_option maxHeartbeats 16000000 in
theorem drop_any (v : Value) (l : List Lk) (id : Int) (w : World) (M : Ms) (h : SlR w M v l) (hl : l.length ≤ 1000000) (hb : ∀ x ∈ l, x.reads.length ≤ 1000000000) :
    Calls Try.prog 10 #[v, .int .i64 id] w fun e w' => ∃ r, e = .returned (.tuple #[r, .int .i64 (dropL l id).2]) ∧ OwR w' noM w.heap.size 39 r (dropL l id).1 ∧ Below w.heap.size w w' := by
  have hbx := (Below.refl w.heap.size w).alloc (Nat.le_refl _) (.cells #[.int .i64 id] 3)
  have hblk := Blk.new w 3 #[.int .i64 id]
  obtain ⟨w0, hw0⟩ : ∃ w0, w0 = w.alloc (.cells #[.int .i64 id] 3) := ⟨_, rfl⟩
  rw [← hw0] at hbx hblk
  have hck := Lib.hid (check_any v l w0 M (h.mono (Keep.below hbx)) hl hb)
  have htw := Lib.hid (fun w1 (hB : Below w0.heap.size w0 w1) => twn_any v l w1 M (h.mono (Keep.below (hbx.trans (hB.mono hbx.size)))) hl hb)
  obtain ⟨a, c, rfl⟩ := h.form
  have HX := Lib.hid hbx
  have hc0 : w0.cell? ⟨w.heap.size, 0, none⟩ = some (.int .i64 id) := by rw [hblk.cell]; rfl
  have HC0 := Lib.hid hc0
  have hbl := Lib.hid hblk.lt
  have Hw0 := Lib.hid hw0
  clear hw0 hc0
  cases hok : okL l with
  | false =>
    have hE := Lib.hid (show dropL l id = ([], 1) by simp [dropL, hok])
    rw [hok] at hck
    clear h hb hok hbx hblk
    rw [hE.out]
    go_enter Try.func10, Try.ntmps10
    go_wp2_with fail
    rw [← Hw0.out]
    refine hck.out.mono ?_
    rintro e w2 ⟨rfl, hB2⟩
    have HB2 := Lib.hid (HX.out.trans (hB2.mono HX.out.size))
    have x0 := below_cell hB2 HC0.out
    clear hB2
    go_wp2
    go_ret2
    exact ⟨_, rfl, OwR.nil _ _ _ _, HB2.out⟩
  | true =>
  rw [hok] at hck
  by_cases hneg : id < 0
  · have hE := Lib.hid (show dropL l id = ([], 1) by simp [dropL, hneg])
    clear h hb hok hbx hblk
    rw [hE.out]
    go_enter Try.func10, Try.ntmps10
    go_wp2_with fail
    rw [← Hw0.out]
    refine hck.out.mono ?_
    rintro e w2 ⟨rfl, hB2⟩
    have HB2 := Lib.hid (HX.out.trans (hB2.mono HX.out.size))
    have x0 := below_cell hB2 HC0.out
    clear hB2
    go_wp2
    go_ret2
    exact ⟨_, rfl, OwR.nil _ _ _ _, HB2.out⟩
  have hE := Lib.hid (show dropL l id = (dropF l id, 0) by simp [dropL, hok, hneg])
  have H8 := Lib.hid (fun x (hx : x ∈ l) => oneL_len (okL_all hok x hx))
  have hl64 := okL_len hok
  have eg : ∀ args w, (callFunc 29 args).run Try.prog w = .ok (.enter 29 args) w := enters_of Try.func29 (by kernel_rfl) rfl
  have Heg := Lib.hid eg
  clear h hb hok hbx hblk eg
  rw [hE.out]
  go_enter Try.func10, Try.ntmps10
  go_wp2_with fail
  rw [← Hw0.out]
  refine hck.out.mono ?_
  rintro e w2 ⟨rfl, hB2⟩
  have HB2 := Lib.hid (HX.out.trans (hB2.mono HX.out.size))
  have x0 := below_cell hB2 HC0.out
  have HB2' := Lib.hid hB2
  clear hB2
  go_wp2_with fail
  refine (htw.out w2 HB2'.out).mono ?_
  rintro e w3 ⟨r3, rfl, hD3, hB3⟩
  obtain ⟨vs, hD⟩ := hD3
  obtain ⟨A3, c3, rfl⟩ := hD.form
  have x3 := Lib.hid (below_cell hB3 x0)
  have HB3 := Lib.hid (HB2.out.trans (hB3.mono HB2.out.size))
  have HD := Lib.hid hD
  have HB2s := Lib.hid HB2.out.size
  have Hgbl := Lib.hid (show w.heap.size < w2.heap.size from Nat.lt_of_lt_of_le hbl.out HB2'.out.size)
  clear hck htw hD hB3 x0
  go_wp2_with fail
  go_loopw [6, 19] (fun o s19 wr => ∃ i : Nat, s19 = .int .i64 i ∧ i ≤ l.length ∧ Hid (Below w.heap.size w wr ∧ wr.cell? ⟨w.heap.size, 0, none⟩ = some (.int .i64 id) ∧ wr.ownsRow w2.heap.size 39 3 (.slice A3 l.length c3) l.length (cellsL l vs) ∧
      (∀ (j : Nat) (x : Lk) (r : Value), i ≤ j → l[j]? = some x → vs[j]? = some r → OwR wr noM w2.heap.size 3 r x.reads) ∧ OwR wr (MD vs i) w3.heap.size 39 o (dropF (l.take i) id) ∧ w3.heap.size ≤ wr.heap.size)) (fun _ s19 _ => l.length - (intOf s19).toNat)
  case atStart => exact ⟨0, rfl, Nat.zero_le _, Lib.hid ⟨HB3.out, x3.out, HD.out.2.1, fun j x r _ hx hr => (HD.out.2.2.1 j x r hx hr).1 (List.getElem?_eq_some_iff.1 hx).1, OwR.nil _ _ _ _, Nat.le_refl _⟩⟩
  case round =>
    obtain ⟨i, rfl, hik, hI⟩ := hrel
    by_cases hlt : i < l.length
    · have hlt' : (i : Int) < l.length := by omega
      obtain ⟨hB, hbx, hrow, hel, hO, hsz⟩ := hI.out
      obtain ⟨g, r, rfl, hgb, hgw, hv, y0, y1, y2, hfz⟩ := row_cells HD.out.1 hrow hlt
      have hor := hel i l[i] r (Nat.le_refl _) (List.getElem?_eq_getElem hlt) hv
      obtain ⟨Ar, Cr, rfl⟩ := hor.form
      have h8 := H8.out l[i] (List.getElem_mem hlt)
      -- the loop's variable in a block of its own
      have hbA := (Below.refl wr.heap.size wr).alloc (Nat.le_refl _) (.cells #[.int .i64 l[i].lba, .slice Ar l[i].reads.length Cr, .int .i64 l[i].writer] 39)
      have hblkA := Blk.new wr 39 #[.int .i64 l[i].lba, .slice Ar l[i].reads.length Cr, .int .i64 l[i].writer]
      obtain ⟨wA, hwA⟩ : ∃ wA, wA = wr.alloc (.cells #[.int .i64 l[i].lba, .slice Ar l[i].reads.length Cr, .int .i64 l[i].writer] 39) := ⟨_, rfl⟩
      rw [← hwA] at hbA hblkA
      have hBne : (Value.slice Ar l[i].reads.length Cr).ownBlock ≠ some w.heap.size := fun e => by have := hor.own_ge e; have := Hgbl.out; omega
      have hdel := Lib.hid (delI_any 29 (fun n x => x == n) Heg.out same_any w.heap.size id _ l[i].reads wA noM w2.heap.size (hor.below hbA) hBne (below_cell hbA hbx) (by omega))
      have hOA := hO.box hbA (Nat.le_refl wr.heap.size)
      have HOA := Lib.hid hOA
      have HblkA := Lib.hid hblkA
      have HbA := Lib.hid hbA
      have HwA := Lib.hid hwA
      have Hor := Lib.hid hor
      have Hv := Lib.hid hv
      have hrlt := Lib.hid (fun b (hb : (Value.slice Ar l[i].reads.length Cr).ownBlock = some b) => hor.own_lt hb)
      have HI := Lib.hid hI.out
      have hgr3 := (HD.out.2.1.lt g rfl).2
      have hNlt := Lib.hid (show g < wr.heap.size ∧ ∀ b, u6.ownBlock = some b → w3.heap.size ≤ b ∧ b < wr.heap.size from ⟨hgw, fun b hb => ⟨hO.own_ge hb, hO.own_lt hb⟩⟩)
      have hrg := Lib.hid (fun (e : (Value.slice Ar l[i].reads.length Cr).ownBlock = some g) => HD.out.row_ne hlt hv e rfl)
      clear hwA hbA hblkA hOA hor hBne hrow hel hO hB hv hI
      go_wp2_with fail
      rw [← HwA.out]
      refine hdel.out.mono ?_
      rintro e w4 ⟨v4, rfl, ho4, hg4, hat4⟩
      obtain ⟨R, hR⟩ : ∃ R, R = l[i].reads.filter (fun y => !(y == id)) := ⟨_, rfl⟩
      have ho4 : OwR w4 noM w2.heap.size 3 v4 R := by rw [hR]; exact ho4
      have HR := Lib.hid (show ∀ W, (if l[i].writer = id then -1 else l[i].writer) = W → dropK id l[i] = ⟨l[i].lba, R, W⟩ from fun W hW => by rw [hR, ← hW]; rfl)
      have hR8 : R.length ≤ 8 := by rw [hR]; exact Nat.le_trans (List.length_filter_le _ _) h8
      clear hR
      obtain ⟨A4, C4, rfl⟩ := ho4.form
      have hrN : some wr.heap.size ≠ (Value.slice Ar l[i].reads.length Cr).ownBlock := fun e => by have := hrlt.out _ e.symm; omega
      have hb4 := HblkA.out.grown hg4 hrN
      have hbx4 := hg4.cell (below_cell HbA.out hbx) (fun e => by have h := Hor.out.own_ge e.symm; exact absurd (show w2.heap.size ≤ w.heap.size from h) (by have := Hgbl.out; omega))
      have HO4 := Lib.hid (HOA.out.kept hg4 (by
        obtain ⟨xs, o1, _⟩ := HI.out.2.2.2.2.1
        obtain ⟨ys, o2, _⟩ := Hor.out
        exact ownsRow_ne o1 o2 (by decide)) (fun b e => .inl ⟨i, _, Nat.le_refl _, Hv.out, e⟩))
      have Ho4 := Lib.hid ho4
      have Hg4 := Lib.hid hg4
      have Hat4 := Lib.hid hat4
      have Hb4 := Lib.hid hb4
      have z0 := hb4.cell 0
      have z1 := hb4.cell 1
      have z2 := hb4.cell 2
      have zf := hb4.frozen
      have zl := hb4.lt
      simp only [List.getElem?_toArray, List.getElem?_cons_zero, List.getElem?_cons_succ] at z0 z1 z2
      clear hdel ho4 hg4 hat4 hb4 y0 y1 y2 hfz hbx
      by_cases hw : l[i].writer = id
      · have hwe : (l[i].writer == id) = true := by simp [hw]
        by_cases hR0 : 0 < R.length
        · have hlv : liveK (dropK id l[i]) = true := by rw [HR.out (-1) (by rw [if_pos hw])]; simp [liveK, hR0]
          have hR1 : (0 : Int) < R.length := by omega
          have hgF : w4.grownBy ((w4.setCell ⟨wr.heap.size, 1, none⟩ (.slice A4 R.length C4)).setCell ⟨wr.heap.size, 2, none⟩ (.int .i64 (-1))) (some wr.heap.size) := (show w4.grownBy (w4.setCell ⟨wr.heap.size, 1, none⟩ (.slice A4 R.length C4)) (some wr.heap.size) from ⟨rfl, rfl, rfl, by simp, fun k _ hne => Below.heap_setCell _ _ _ _ (fun e => hne (by rw [e]))⟩).trans ⟨rfl, rfl, rfl, by simp, fun k _ hne => Below.heap_setCell _ _ _ _ (fun e => hne (by rw [e]))⟩
          have hOF := ((HO4.out.kept hgF (.inr fun e => by have := (hNlt.out.2 _ e).2; omega) (fun b e => .inr (by injection e with e; exact e.symm))).less (M' := MD vs (i + 1)) (fun b ⟨j, r, h1, h2, h3⟩ => .inl ⟨j, r, by omega, h2, h3⟩))
          have hoF := Ho4.out.kept' hgF (fun e => hrN (by rw [← Hat4.out]; exact e.symm))
          have hbF := (Below.refl ((w4.setCell ⟨wr.heap.size, 1, none⟩ (.slice A4 R.length C4)).setCell ⟨wr.heap.size, 2, none⟩ (.int .i64 (-1))).heap.size ((w4.setCell ⟨wr.heap.size, 1, none⟩ (.slice A4 R.length C4)).setCell ⟨wr.heap.size, 2, none⟩ (.int .i64 (-1)))).alloc (Nat.le_refl _) (.cells #[.int .i64 l[i].lba, .slice A4 R.length C4, .int .i64 (-1)] 39)
          have hblk := Blk.new ((w4.setCell ⟨wr.heap.size, 1, none⟩ (.slice A4 R.length C4)).setCell ⟨wr.heap.size, 2, none⟩ (.int .i64 (-1))) 39 #[.int .i64 l[i].lba, .slice A4 R.length C4, .int .i64 (-1)]
          have HOG := Lib.hid (hOF.below hbF)
          have hS := Lib.hid (show SlR (((w4.setCell ⟨wr.heap.size, 1, none⟩ (.slice A4 R.length C4)).setCell ⟨wr.heap.size, 2, none⟩ (.int .i64 (-1))).alloc (.cells #[.int .i64 l[i].lba, .slice A4 R.length C4, .int .i64 (-1)] 39)) (fun b => MD vs (i + 1) b ∨ u6.ownBlock = some b) (.slice (some ⟨w4.heap.size, 0, none⟩) 1 1) [dropK id l[i]] from by
            rw [HR.out (-1) (by rw [if_pos hw])]
            have h := SlR.one (M := fun b => MD vs (i + 1) b ∨ u6.ownBlock = some b) (x := (⟨l[i].lba, R, (-1)⟩ : Lk)) hblk ⟨_, rfl, ((hoF.below hbF).ints (M' := fun b => MD vs (i + 1) b ∨ u6.ownBlock = some b)).sl' (fun b hb hm => ?_)⟩ (fun hm => ?_)
            · simpa using h
            · rcases hm with ⟨j, s, h1, h2, h3⟩ | h3
              · exact HD.out.2.2.2 i j _ s b hlt (by rw [← HD.out.1]; exact (List.getElem?_eq_some_iff.1 h2).1) (by omega) Hv.out h2 (by rw [← Hat4.out]; exact hb) h3
              · obtain ⟨xs, o1, _⟩ := Ho4.out
                obtain ⟨ys, o2, _⟩ := HO4.out
                rcases ownsRow_ne o1 o2 (by decide) with h | h
                · rw [h] at hb; cases hb
                · exact h (by rw [hb, h3])
            · have hw4 : ((w4.setCell ⟨wr.heap.size, 1, none⟩ (.slice A4 R.length C4)).setCell ⟨wr.heap.size, 2, none⟩ (.int .i64 (-1))).heap.size = w4.heap.size := by simp
              rw [hw4] at hm
              rcases hm with ⟨j, s, h1, h2, h3⟩ | h3
              · have hj : j < l.length := by rw [← HD.out.1]; exact (List.getElem?_eq_some_iff.1 h2).1
                have := ((HD.out.2.2.1 j _ s (List.getElem?_eq_getElem hj) h2).1 hj).own_lt h3; omega
              · have := (hNlt.out.2 _ h3).2; omega)
          have hlen : (dropF (l.take i) id).length + 1 ≤ 1000000000 := by have := dropF_len (l.take i) id; rw [List.length_take] at this; omega
          have hE2 := Lib.hid (show dropF (l.take (i + 1)) id = dropF (l.take i) id ++ [dropK id l[i]] by rw [dropF_snoc hlt, if_pos hlv])
          have hG := Lib.hid hgF
          have hszF := Lib.hid (Nat.le_trans HbA.out.size (Nat.le_trans Hg4.out.size (Nat.le_trans hgF.size hbF.size)))
          have hGb := Lib.hid hbF
          clear hgF hOF hoF hbF hblk hlv
          go_wp2_with (at_builtin; go_must (refine wpList_append_R (α := Lk) (M := MD vs (i + 1)) (base := w3.heap.size) (l := dropF (l.take i) id) (m := [dropK id l[i]]) rfl (by rfl) tyL (by rfl) HOG.out (by rfl) hS.out (by simpa using hlen) (Nat.le_trans hsz hszF.out) ?_); intro v5 w5 ho5 hg5 hat5)
          rw [← hE2.out] at ho5
          have hK5 := drop_keep (w5 := w5) (M := MD vs i) HI.out.1 Hgbl.out HI.out.2.1 HI.out.2.2.1 HI.out.2.2.2.1 (fun j s b hj hs hb => HD.out.2.2.2 i j _ s b hlt (by rw [← HD.out.1]; exact (List.getElem?_eq_some_iff.1 hs).1) (by omega) Hv.out hs hb) (fun e => hrg.out e) (fun b e => Hor.out.own_ge e) (fun e => by have := (hNlt.out.2 _ e).1; omega) (fun b e => by have := (hNlt.out.2 _ e).1; have := (HD.out.2.1.lt g rfl).1; omega) HI.out.2.2.2.2.1
            (hg5.os.trans (hGb.out.os.trans (hG.out.os.trans (Hg4.out.os.trans HbA.out.os)))) (hg5.tape.trans (hGb.out.tape.trans (hG.out.tape.trans (Hg4.out.tape.trans HbA.out.tape)))) (hg5.output.trans (hGb.out.output.trans (hG.out.output.trans (Hg4.out.output.trans HbA.out.output))))
            (fun b hb h1 h2 => (hg5.block b (Nat.lt_of_lt_of_le hb hszF.out) h2).trans ((hGb.out.block b (Nat.lt_of_lt_of_le hb (Nat.le_trans HbA.out.size (Nat.le_trans Hg4.out.size hG.out.size)))).trans ((hG.out.block b (Nat.lt_of_lt_of_le hb (Nat.le_trans HbA.out.size Hg4.out.size)) (fun e => by injection e with e; omega)).trans ((Hg4.out.block b (Nat.lt_of_lt_of_le hb HbA.out.size) h1).trans (HbA.out.block b hb)))))
            (Nat.le_trans hszF.out hg5.size)
          have hfin := Lib.hid (show Below w.heap.size w w5 ∧ w5.cell? ⟨w.heap.size, 0, none⟩ = some (.int .i64 id) ∧ w5.ownsRow w2.heap.size 39 3 (.slice (some ⟨g, 0, none⟩) l.length c3) l.length (cellsL l vs) ∧ (∀ (j : Nat) (x : Lk) (r : Value), i + 1 ≤ j → l[j]? = some x → vs[j]? = some r → OwR w5 noM w2.heap.size 3 r x.reads) ∧ OwR w5 (MD vs (i + 1)) w3.heap.size 39 v5 (dropF (l.take (i + 1)) id) ∧ w3.heap.size ≤ w5.heap.size from ⟨hK5.1, hK5.2.1, hK5.2.2.1, hK5.2.2.2, ho5, Nat.le_trans hsz (Nat.le_trans hszF.out hg5.size)⟩)
          clear hK5 ho5 hg5 hat5
          go_roundw
          case rel => exact ⟨i + 1, by go_num, by omega, hfin⟩
          case measure => simp [intOf]; omega
        · have hlv : liveK (dropK id l[i]) = false := by rw [HR.out (-1) (by rw [if_pos hw])]; simp only [liveK, decide_eq_false hR0]; rfl
          have hR1 : ¬ (0 : Int) < R.length := by omega
          have hgF : w4.grownBy ((w4.setCell ⟨wr.heap.size, 1, none⟩ (.slice A4 R.length C4)).setCell ⟨wr.heap.size, 2, none⟩ (.int .i64 (-1))) (some wr.heap.size) := (show w4.grownBy (w4.setCell ⟨wr.heap.size, 1, none⟩ (.slice A4 R.length C4)) (some wr.heap.size) from ⟨rfl, rfl, rfl, by simp, fun k _ hne => Below.heap_setCell _ _ _ _ (fun e => hne (by rw [e]))⟩).trans ⟨rfl, rfl, rfl, by simp, fun k _ hne => Below.heap_setCell _ _ _ _ (fun e => hne (by rw [e]))⟩
          have hOF := ((HO4.out.kept hgF (.inr fun e => by have := (hNlt.out.2 _ e).2; omega) (fun b e => .inr (by injection e with e; exact e.symm))).less (M' := MD vs (i + 1)) (fun b ⟨j, r, h1, h2, h3⟩ => .inl ⟨j, r, by omega, h2, h3⟩))
          have hE2 := Lib.hid (show dropF (l.take (i + 1)) id = dropF (l.take i) id by rw [dropF_snoc hlt, if_neg (by rw [hlv]; simp)])
          have hK5 := drop_keep (w5 := ((w4.setCell ⟨wr.heap.size, 1, none⟩ (.slice A4 R.length C4)).setCell ⟨wr.heap.size, 2, none⟩ (.int .i64 (-1)))) (M := MD vs i) HI.out.1 Hgbl.out HI.out.2.1 HI.out.2.2.1 HI.out.2.2.2.1 (fun j s b hj hs hb => HD.out.2.2.2 i j _ s b hlt (by rw [← HD.out.1]; exact (List.getElem?_eq_some_iff.1 hs).1) (by omega) Hv.out hs hb) (fun e => hrg.out e) (fun b e => Hor.out.own_ge e) (fun e => by have := (hNlt.out.2 _ e).1; omega) (fun b e => by have := (hNlt.out.2 _ e).1; have := (HD.out.2.1.lt g rfl).1; omega) HI.out.2.2.2.2.1
            (hgF.os.trans (Hg4.out.os.trans HbA.out.os)) (hgF.tape.trans (Hg4.out.tape.trans HbA.out.tape)) (hgF.output.trans (Hg4.out.output.trans HbA.out.output))
            (fun b hb h1 h2 => (hgF.block b (Nat.lt_of_lt_of_le hb (Nat.le_trans HbA.out.size Hg4.out.size)) (fun e => by injection e with e; omega)).trans ((Hg4.out.block b (Nat.lt_of_lt_of_le hb HbA.out.size) h1).trans (HbA.out.block b hb)))
            (Nat.le_trans HbA.out.size (Nat.le_trans Hg4.out.size hgF.size))
          have hfin := Lib.hid (show Below w.heap.size w ((w4.setCell ⟨wr.heap.size, 1, none⟩ (.slice A4 R.length C4)).setCell ⟨wr.heap.size, 2, none⟩ (.int .i64 (-1))) ∧ ((w4.setCell ⟨wr.heap.size, 1, none⟩ (.slice A4 R.length C4)).setCell ⟨wr.heap.size, 2, none⟩ (.int .i64 (-1))).cell? ⟨w.heap.size, 0, none⟩ = some (.int .i64 id) ∧ ((w4.setCell ⟨wr.heap.size, 1, none⟩ (.slice A4 R.length C4)).setCell ⟨wr.heap.size, 2, none⟩ (.int .i64 (-1))).ownsRow w2.heap.size 39 3 (.slice (some ⟨g, 0, none⟩) l.length c3) l.length (cellsL l vs) ∧ (∀ (j : Nat) (x : Lk) (r : Value), i + 1 ≤ j → l[j]? = some x → vs[j]? = some r → OwR ((w4.setCell ⟨wr.heap.size, 1, none⟩ (.slice A4 R.length C4)).setCell ⟨wr.heap.size, 2, none⟩ (.int .i64 (-1))) noM w2.heap.size 3 r x.reads) ∧ OwR ((w4.setCell ⟨wr.heap.size, 1, none⟩ (.slice A4 R.length C4)).setCell ⟨wr.heap.size, 2, none⟩ (.int .i64 (-1))) (MD vs (i + 1)) w3.heap.size 39 u6 (dropF (l.take (i + 1)) id) ∧ w3.heap.size ≤ ((w4.setCell ⟨wr.heap.size, 1, none⟩ (.slice A4 R.length C4)).setCell ⟨wr.heap.size, 2, none⟩ (.int .i64 (-1))).heap.size from ⟨hK5.1, hK5.2.1, hK5.2.2.1, hK5.2.2.2, by rw [hE2.out]; exact hOF, Nat.le_trans hsz (Nat.le_trans HbA.out.size (Nat.le_trans Hg4.out.size hgF.size))⟩)
          clear hgF hOF hK5 hlv
          go_wp2
          go_roundw
          case rel => exact ⟨i + 1, by go_num, by omega, hfin⟩
          case measure => simp [intOf]; omega
      · have hwe : (l[i].writer == id) = false := by simpa using hw
        by_cases hR0 : 0 < R.length
        · have hlv : liveK (dropK id l[i]) = true := by rw [HR.out l[i].writer (by rw [if_neg hw])]; simp [liveK, hR0]
          have hR1 : (0 : Int) < R.length := by omega
          have hgF : w4.grownBy (w4.setCell ⟨wr.heap.size, 1, none⟩ (.slice A4 R.length C4)) (some wr.heap.size) := ⟨rfl, rfl, rfl, by simp, fun k _ hne => Below.heap_setCell _ _ _ _ (fun e => hne (by rw [e]))⟩
          have hOF := ((HO4.out.kept hgF (.inr fun e => by have := (hNlt.out.2 _ e).2; omega) (fun b e => .inr (by injection e with e; exact e.symm))).less (M' := MD vs (i + 1)) (fun b ⟨j, r, h1, h2, h3⟩ => .inl ⟨j, r, by omega, h2, h3⟩))
          have hoF := Ho4.out.kept' hgF (fun e => hrN (by rw [← Hat4.out]; exact e.symm))
          have hbF := (Below.refl (w4.setCell ⟨wr.heap.size, 1, none⟩ (.slice A4 R.length C4)).heap.size (w4.setCell ⟨wr.heap.size, 1, none⟩ (.slice A4 R.length C4))).alloc (Nat.le_refl _) (.cells #[.int .i64 l[i].lba, .slice A4 R.length C4, .int .i64 l[i].writer] 39)
          have hblk := Blk.new (w4.setCell ⟨wr.heap.size, 1, none⟩ (.slice A4 R.length C4)) 39 #[.int .i64 l[i].lba, .slice A4 R.length C4, .int .i64 l[i].writer]
          have HOG := Lib.hid (hOF.below hbF)
          have hS := Lib.hid (show SlR ((w4.setCell ⟨wr.heap.size, 1, none⟩ (.slice A4 R.length C4)).alloc (.cells #[.int .i64 l[i].lba, .slice A4 R.length C4, .int .i64 l[i].writer] 39)) (fun b => MD vs (i + 1) b ∨ u6.ownBlock = some b) (.slice (some ⟨w4.heap.size, 0, none⟩) 1 1) [dropK id l[i]] from by
            rw [HR.out l[i].writer (by rw [if_neg hw])]
            have h := SlR.one (M := fun b => MD vs (i + 1) b ∨ u6.ownBlock = some b) (x := (⟨l[i].lba, R, l[i].writer⟩ : Lk)) hblk ⟨_, rfl, ((hoF.below hbF).ints (M' := fun b => MD vs (i + 1) b ∨ u6.ownBlock = some b)).sl' (fun b hb hm => ?_)⟩ (fun hm => ?_)
            · simpa using h
            · rcases hm with ⟨j, s, h1, h2, h3⟩ | h3
              · exact HD.out.2.2.2 i j _ s b hlt (by rw [← HD.out.1]; exact (List.getElem?_eq_some_iff.1 h2).1) (by omega) Hv.out h2 (by rw [← Hat4.out]; exact hb) h3
              · obtain ⟨xs, o1, _⟩ := Ho4.out
                obtain ⟨ys, o2, _⟩ := HO4.out
                rcases ownsRow_ne o1 o2 (by decide) with h | h
                · rw [h] at hb; cases hb
                · exact h (by rw [hb, h3])
            · have hw4 : (w4.setCell ⟨wr.heap.size, 1, none⟩ (.slice A4 R.length C4)).heap.size = w4.heap.size := by simp
              rw [hw4] at hm
              rcases hm with ⟨j, s, h1, h2, h3⟩ | h3
              · have hj : j < l.length := by rw [← HD.out.1]; exact (List.getElem?_eq_some_iff.1 h2).1
                have := ((HD.out.2.2.1 j _ s (List.getElem?_eq_getElem hj) h2).1 hj).own_lt h3; omega
              · have := (hNlt.out.2 _ h3).2; omega)
          have hlen : (dropF (l.take i) id).length + 1 ≤ 1000000000 := by have := dropF_len (l.take i) id; rw [List.length_take] at this; omega
          have hE2 := Lib.hid (show dropF (l.take (i + 1)) id = dropF (l.take i) id ++ [dropK id l[i]] by rw [dropF_snoc hlt, if_pos hlv])
          have hG := Lib.hid hgF
          have hszF := Lib.hid (Nat.le_trans HbA.out.size (Nat.le_trans Hg4.out.size (Nat.le_trans hgF.size hbF.size)))
          have hGb := Lib.hid hbF
          clear hgF hOF hoF hbF hblk hlv
          go_wp2_with (at_builtin; go_must (refine wpList_append_R (α := Lk) (M := MD vs (i + 1)) (base := w3.heap.size) (l := dropF (l.take i) id) (m := [dropK id l[i]]) rfl (by rfl) tyL (by rfl) HOG.out (by rfl) hS.out (by simpa using hlen) (Nat.le_trans hsz hszF.out) ?_); intro v5 w5 ho5 hg5 hat5)
          rw [← hE2.out] at ho5
          have hK5 := drop_keep (w5 := w5) (M := MD vs i) HI.out.1 Hgbl.out HI.out.2.1 HI.out.2.2.1 HI.out.2.2.2.1 (fun j s b hj hs hb => HD.out.2.2.2 i j _ s b hlt (by rw [← HD.out.1]; exact (List.getElem?_eq_some_iff.1 hs).1) (by omega) Hv.out hs hb) (fun e => hrg.out e) (fun b e => Hor.out.own_ge e) (fun e => by have := (hNlt.out.2 _ e).1; omega) (fun b e => by have := (hNlt.out.2 _ e).1; have := (HD.out.2.1.lt g rfl).1; omega) HI.out.2.2.2.2.1
            (hg5.os.trans (hGb.out.os.trans (hG.out.os.trans (Hg4.out.os.trans HbA.out.os)))) (hg5.tape.trans (hGb.out.tape.trans (hG.out.tape.trans (Hg4.out.tape.trans HbA.out.tape)))) (hg5.output.trans (hGb.out.output.trans (hG.out.output.trans (Hg4.out.output.trans HbA.out.output))))
            (fun b hb h1 h2 => (hg5.block b (Nat.lt_of_lt_of_le hb hszF.out) h2).trans ((hGb.out.block b (Nat.lt_of_lt_of_le hb (Nat.le_trans HbA.out.size (Nat.le_trans Hg4.out.size hG.out.size)))).trans ((hG.out.block b (Nat.lt_of_lt_of_le hb (Nat.le_trans HbA.out.size Hg4.out.size)) (fun e => by injection e with e; omega)).trans ((Hg4.out.block b (Nat.lt_of_lt_of_le hb HbA.out.size) h1).trans (HbA.out.block b hb)))))
            (Nat.le_trans hszF.out hg5.size)
          have hfin := Lib.hid (show Below w.heap.size w w5 ∧ w5.cell? ⟨w.heap.size, 0, none⟩ = some (.int .i64 id) ∧ w5.ownsRow w2.heap.size 39 3 (.slice (some ⟨g, 0, none⟩) l.length c3) l.length (cellsL l vs) ∧ (∀ (j : Nat) (x : Lk) (r : Value), i + 1 ≤ j → l[j]? = some x → vs[j]? = some r → OwR w5 noM w2.heap.size 3 r x.reads) ∧ OwR w5 (MD vs (i + 1)) w3.heap.size 39 v5 (dropF (l.take (i + 1)) id) ∧ w3.heap.size ≤ w5.heap.size from ⟨hK5.1, hK5.2.1, hK5.2.2.1, hK5.2.2.2, ho5, Nat.le_trans hsz (Nat.le_trans hszF.out hg5.size)⟩)
          clear hK5 ho5 hg5 hat5
          go_roundw
          case rel => exact ⟨i + 1, by go_num, by omega, hfin⟩
          case measure => simp [intOf]; omega
        have hR1 : ¬ (0 : Int) < R.length := by omega
        by_cases hm : l[i].writer = -1
        · have hlv : liveK (dropK id l[i]) = false := by rw [HR.out l[i].writer (by rw [if_neg hw])]; simp only [liveK, decide_eq_false hR0, hm]; rfl
          have hme : (l[i].writer != -1) = false := by simp [hm]
          have Hm := Lib.hid hm; clear hm
          have hgF : w4.grownBy (w4.setCell ⟨wr.heap.size, 1, none⟩ (.slice A4 R.length C4)) (some wr.heap.size) := ⟨rfl, rfl, rfl, by simp, fun k _ hne => Below.heap_setCell _ _ _ _ (fun e => hne (by rw [e]))⟩
          have hOF := ((HO4.out.kept hgF (.inr fun e => by have := (hNlt.out.2 _ e).2; omega) (fun b e => .inr (by injection e with e; exact e.symm))).less (M' := MD vs (i + 1)) (fun b ⟨j, r, h1, h2, h3⟩ => .inl ⟨j, r, by omega, h2, h3⟩))
          have hE2 := Lib.hid (show dropF (l.take (i + 1)) id = dropF (l.take i) id by rw [dropF_snoc hlt, if_neg (by rw [hlv]; simp)])
          have hK5 := drop_keep (w5 := (w4.setCell ⟨wr.heap.size, 1, none⟩ (.slice A4 R.length C4))) (M := MD vs i) HI.out.1 Hgbl.out HI.out.2.1 HI.out.2.2.1 HI.out.2.2.2.1 (fun j s b hj hs hb => HD.out.2.2.2 i j _ s b hlt (by rw [← HD.out.1]; exact (List.getElem?_eq_some_iff.1 hs).1) (by omega) Hv.out hs hb) (fun e => hrg.out e) (fun b e => Hor.out.own_ge e) (fun e => by have := (hNlt.out.2 _ e).1; omega) (fun b e => by have := (hNlt.out.2 _ e).1; have := (HD.out.2.1.lt g rfl).1; omega) HI.out.2.2.2.2.1
            (hgF.os.trans (Hg4.out.os.trans HbA.out.os)) (hgF.tape.trans (Hg4.out.tape.trans HbA.out.tape)) (hgF.output.trans (Hg4.out.output.trans HbA.out.output))
            (fun b hb h1 h2 => (hgF.block b (Nat.lt_of_lt_of_le hb (Nat.le_trans HbA.out.size Hg4.out.size)) (fun e => by injection e with e; omega)).trans ((Hg4.out.block b (Nat.lt_of_lt_of_le hb HbA.out.size) h1).trans (HbA.out.block b hb)))
            (Nat.le_trans HbA.out.size (Nat.le_trans Hg4.out.size hgF.size))
          have hfin := Lib.hid (show Below w.heap.size w (w4.setCell ⟨wr.heap.size, 1, none⟩ (.slice A4 R.length C4)) ∧ (w4.setCell ⟨wr.heap.size, 1, none⟩ (.slice A4 R.length C4)).cell? ⟨w.heap.size, 0, none⟩ = some (.int .i64 id) ∧ (w4.setCell ⟨wr.heap.size, 1, none⟩ (.slice A4 R.length C4)).ownsRow w2.heap.size 39 3 (.slice (some ⟨g, 0, none⟩) l.length c3) l.length (cellsL l vs) ∧ (∀ (j : Nat) (x : Lk) (r : Value), i + 1 ≤ j → l[j]? = some x → vs[j]? = some r → OwR (w4.setCell ⟨wr.heap.size, 1, none⟩ (.slice A4 R.length C4)) noM w2.heap.size 3 r x.reads) ∧ OwR (w4.setCell ⟨wr.heap.size, 1, none⟩ (.slice A4 R.length C4)) (MD vs (i + 1)) w3.heap.size 39 u6 (dropF (l.take (i + 1)) id) ∧ w3.heap.size ≤ (w4.setCell ⟨wr.heap.size, 1, none⟩ (.slice A4 R.length C4)).heap.size from ⟨hK5.1, hK5.2.1, hK5.2.2.1, hK5.2.2.2, by rw [hE2.out]; exact hOF, Nat.le_trans hsz (Nat.le_trans HbA.out.size (Nat.le_trans Hg4.out.size hgF.size))⟩)
          clear hgF hOF hK5 hlv
          go_wp2
          go_roundw
          case rel => exact ⟨i + 1, by go_num, by omega, hfin⟩
          case measure => simp [intOf]; omega
        · have hlv : liveK (dropK id l[i]) = true := by rw [HR.out l[i].writer (by rw [if_neg hw])]; simp [liveK, hm]
          have hme : (l[i].writer != -1) = true := by simpa using hm
          have hgF : w4.grownBy (w4.setCell ⟨wr.heap.size, 1, none⟩ (.slice A4 R.length C4)) (some wr.heap.size) := ⟨rfl, rfl, rfl, by simp, fun k _ hne => Below.heap_setCell _ _ _ _ (fun e => hne (by rw [e]))⟩
          have hOF := ((HO4.out.kept hgF (.inr fun e => by have := (hNlt.out.2 _ e).2; omega) (fun b e => .inr (by injection e with e; exact e.symm))).less (M' := MD vs (i + 1)) (fun b ⟨j, r, h1, h2, h3⟩ => .inl ⟨j, r, by omega, h2, h3⟩))
          have hoF := Ho4.out.kept' hgF (fun e => hrN (by rw [← Hat4.out]; exact e.symm))
          have hbF := (Below.refl (w4.setCell ⟨wr.heap.size, 1, none⟩ (.slice A4 R.length C4)).heap.size (w4.setCell ⟨wr.heap.size, 1, none⟩ (.slice A4 R.length C4))).alloc (Nat.le_refl _) (.cells #[.int .i64 l[i].lba, .slice A4 R.length C4, .int .i64 l[i].writer] 39)
          have hblk := Blk.new (w4.setCell ⟨wr.heap.size, 1, none⟩ (.slice A4 R.length C4)) 39 #[.int .i64 l[i].lba, .slice A4 R.length C4, .int .i64 l[i].writer]
          have HOG := Lib.hid (hOF.below hbF)
          have hS := Lib.hid (show SlR ((w4.setCell ⟨wr.heap.size, 1, none⟩ (.slice A4 R.length C4)).alloc (.cells #[.int .i64 l[i].lba, .slice A4 R.length C4, .int .i64 l[i].writer] 39)) (fun b => MD vs (i + 1) b ∨ u6.ownBlock = some b) (.slice (some ⟨w4.heap.size, 0, none⟩) 1 1) [dropK id l[i]] from by
            rw [HR.out l[i].writer (by rw [if_neg hw])]
            have h := SlR.one (M := fun b => MD vs (i + 1) b ∨ u6.ownBlock = some b) (x := (⟨l[i].lba, R, l[i].writer⟩ : Lk)) hblk ⟨_, rfl, ((hoF.below hbF).ints (M' := fun b => MD vs (i + 1) b ∨ u6.ownBlock = some b)).sl' (fun b hb hm => ?_)⟩ (fun hm => ?_)
            · simpa using h
            · rcases hm with ⟨j, s, h1, h2, h3⟩ | h3
              · exact HD.out.2.2.2 i j _ s b hlt (by rw [← HD.out.1]; exact (List.getElem?_eq_some_iff.1 h2).1) (by omega) Hv.out h2 (by rw [← Hat4.out]; exact hb) h3
              · obtain ⟨xs, o1, _⟩ := Ho4.out
                obtain ⟨ys, o2, _⟩ := HO4.out
                rcases ownsRow_ne o1 o2 (by decide) with h | h
                · rw [h] at hb; cases hb
                · exact h (by rw [hb, h3])
            · have hw4 : (w4.setCell ⟨wr.heap.size, 1, none⟩ (.slice A4 R.length C4)).heap.size = w4.heap.size := by simp
              rw [hw4] at hm
              rcases hm with ⟨j, s, h1, h2, h3⟩ | h3
              · have hj : j < l.length := by rw [← HD.out.1]; exact (List.getElem?_eq_some_iff.1 h2).1
                have := ((HD.out.2.2.1 j _ s (List.getElem?_eq_getElem hj) h2).1 hj).own_lt h3; omega
              · have := (hNlt.out.2 _ h3).2; omega)
          have hlen : (dropF (l.take i) id).length + 1 ≤ 1000000000 := by have := dropF_len (l.take i) id; rw [List.length_take] at this; omega
          have hE2 := Lib.hid (show dropF (l.take (i + 1)) id = dropF (l.take i) id ++ [dropK id l[i]] by rw [dropF_snoc hlt, if_pos hlv])
          have hG := Lib.hid hgF
          have hszF := Lib.hid (Nat.le_trans HbA.out.size (Nat.le_trans Hg4.out.size (Nat.le_trans hgF.size hbF.size)))
          have hGb := Lib.hid hbF
          clear hgF hOF hoF hbF hblk hlv
          go_wp2_with (at_builtin; go_must (refine wpList_append_R (α := Lk) (M := MD vs (i + 1)) (base := w3.heap.size) (l := dropF (l.take i) id) (m := [dropK id l[i]]) rfl (by rfl) tyL (by rfl) HOG.out (by rfl) hS.out (by simpa using hlen) (Nat.le_trans hsz hszF.out) ?_); intro v5 w5 ho5 hg5 hat5)
          rw [← hE2.out] at ho5
          have hK5 := drop_keep (w5 := w5) (M := MD vs i) HI.out.1 Hgbl.out HI.out.2.1 HI.out.2.2.1 HI.out.2.2.2.1 (fun j s b hj hs hb => HD.out.2.2.2 i j _ s b hlt (by rw [← HD.out.1]; exact (List.getElem?_eq_some_iff.1 hs).1) (by omega) Hv.out hs hb) (fun e => hrg.out e) (fun b e => Hor.out.own_ge e) (fun e => by have := (hNlt.out.2 _ e).1; omega) (fun b e => by have := (hNlt.out.2 _ e).1; have := (HD.out.2.1.lt g rfl).1; omega) HI.out.2.2.2.2.1
            (hg5.os.trans (hGb.out.os.trans (hG.out.os.trans (Hg4.out.os.trans HbA.out.os)))) (hg5.tape.trans (hGb.out.tape.trans (hG.out.tape.trans (Hg4.out.tape.trans HbA.out.tape)))) (hg5.output.trans (hGb.out.output.trans (hG.out.output.trans (Hg4.out.output.trans HbA.out.output))))
            (fun b hb h1 h2 => (hg5.block b (Nat.lt_of_lt_of_le hb hszF.out) h2).trans ((hGb.out.block b (Nat.lt_of_lt_of_le hb (Nat.le_trans HbA.out.size (Nat.le_trans Hg4.out.size hG.out.size)))).trans ((hG.out.block b (Nat.lt_of_lt_of_le hb (Nat.le_trans HbA.out.size Hg4.out.size)) (fun e => by injection e with e; omega)).trans ((Hg4.out.block b (Nat.lt_of_lt_of_le hb HbA.out.size) h1).trans (HbA.out.block b hb)))))
            (Nat.le_trans hszF.out hg5.size)
          have hfin := Lib.hid (show Below w.heap.size w w5 ∧ w5.cell? ⟨w.heap.size, 0, none⟩ = some (.int .i64 id) ∧ w5.ownsRow w2.heap.size 39 3 (.slice (some ⟨g, 0, none⟩) l.length c3) l.length (cellsL l vs) ∧ (∀ (j : Nat) (x : Lk) (r : Value), i + 1 ≤ j → l[j]? = some x → vs[j]? = some r → OwR w5 noM w2.heap.size 3 r x.reads) ∧ OwR w5 (MD vs (i + 1)) w3.heap.size 39 v5 (dropF (l.take (i + 1)) id) ∧ w3.heap.size ≤ w5.heap.size from ⟨hK5.1, hK5.2.1, hK5.2.2.1, hK5.2.2.2, ho5, Nat.le_trans hsz (Nat.le_trans hszF.out hg5.size)⟩)
          clear hK5 ho5 hg5 hat5
          go_roundw
          case rel => exact ⟨i + 1, by go_num, by omega, hfin⟩
          case measure => simp [intOf]; omega
    · obtain rfl : i = l.length := by omega
      have hO := hI.out.2.2.2.2.1
      rw [List.take_length] at hO
      have HO := Lib.hid (OwR.mono_base (hO.less (M' := noM) (fun b h => h.elim)) (show w.heap.size ≤ w3.heap.size from HB3.out.size))
      have HBr := Lib.hid hI.out.1
      clear hO
      go_wp2
      go_ret2
      exact ⟨_, rfl, HO.out, HBr.out⟩
end Go.Proofs.Ytombdkdidnoomaa
