/-
table.Bytes.
-/
import Derived.Test.YtpknhpfbinplgaaRcTable
namespace Go.Proofs.Ytpknhpfbinplgaa
open Go.RowKit
attribute [local go_sem ↓] Go.wp_at_zero Go.wp_at_succ

def lostN (b : Bool) : Int := if b then 1 else 0
def entB (x : Ent) : List UInt8 := rowB [x.stamp, x.sum, lostN x.lost] [4, 4, 1]
def tblB (l : List Ent) : List UInt8 := (l.map entB).flatten
theorem tblB_step {l : List Ent} {k : Nat} (hk : k < l.length) : tblB (l.take (k + 1)) = tblB (l.take k) ++ entB l[k] := by
  unfold tblB
  rw [List.take_add_one, List.getElem?_eq_getElem hk, List.map_append, List.flatten_append]
  simp
theorem entB_len (x : Ent) : (entB x).length = 9 := by simp [entB, tot_rowB, tot]
theorem tblB_len (l : List Ent) : (tblB l).length = 9 * l.length := by
  unfold tblB
  induction l with
  | nil => rfl
  | cons x l ih => simp only [List.map_cons, List.flatten_cons, List.length_append, entB_len, ih, List.length_cons]; omega
theorem num32_iff {n : Int} : num32 n = true ↔ 0 ≤ n ∧ n < 4294967296 := by unfold num32; rw [inB_iff]; omega
theorem ent_fits {x : Ent} (h : entOk x = true) : ∀ k (_ : k < [x.stamp, x.sum, lostN x.lost].length) (b : k < [(4 : Int), 4, 1].length), szOk [(4 : Int), 4, 1][k] ∧ 0 ≤ [x.stamp, x.sum, lostN x.lost][k] ∧ [x.stamp, x.sum, lostN x.lost][k] < limS [(4 : Int), 4, 1][k] := by
  simp only [entOk, Bool.and_eq_true, num32_iff] at h
  intro k a _
  match k, a with
  | 0, _ => exact ⟨.inr (.inr rfl), h.1.1, h.1.2⟩
  | 1, _ => exact ⟨.inr (.inr rfl), h.2.1, h.2.2⟩
  | 2, _ => refine ⟨.inl rfl, ?_, ?_⟩ <;> (simp only [List.getElem_cons_succ, List.getElem_cons_zero]; unfold lostN; split <;> decide)

theorem row_lit (ns ss : List Int) (W : World) (hl : ns.length = ss.length) (hn : ns.length ≤ 1000) (hf : ∀ k (a : k < ns.length) (b : k < ss.length), szOk ss[k] ∧ 0 ≤ ns[k] ∧ ns[k] < limS ss[k]) :
    Calls Try.prog 34 #[.slice (some ⟨W.heap.size, 0, none⟩) ns.length ns.length, .slice (some ⟨W.heap.size + 1, 0, none⟩) ss.length ss.length]
      ((W.alloc (.cells (ns.map (Value.int .i64)).toArray 3)).alloc (.cells (ss.map (Value.int .i64)).toArray 3)) fun e w' =>
      ∃ r, e = .returned (.tuple #[r, .int .i64 0]) ∧ OwR w' noM W.heap.size 5 r (rowB ns ss) ∧ Below W.heap.size W w' := by
  have h1 := (OwR.litI W noM ns hn).alloc (.cells (ss.map (Value.int .i64)).toArray 3)
  have h2 := OwR.litI (W.alloc (.cells (ns.map (Value.int .i64)).toArray 3)) noM ss (by omega)
  have hb := ((Below.refl W.heap.size W).alloc (Nat.le_refl _) (.cells (ns.map (Value.int .i64)).toArray 3)).alloc (by simp) (.cells (ss.map (Value.int .i64)).toArray 3)
  rw [World.size_alloc] at h2
  refine (row_any _ _ ns ss _ noM noM noM (h1.sl fun _ _ h => h) (h2.sl fun _ _ h => h) hl hn hf).mono fun e w' ⟨r, he, ho, hB⟩ => ⟨r, he, ho.mono_base hb.size, hb.trans (hB.mono hb.size)⟩
def TbytesP (w' : World) (base : Nat) (g : Geo) (l : List Ent) (e : Ending) : Prop :=
  (okT g l = true ∧ ∃ v, e = .returned (.tuple #[v, .int .i64 0]) ∧ OwR w' noM base 5 v (tblB l)) ∨ (okT g l = false ∧ e = .returned (.tuple #[.slice none 0 0, .int .i64 1]))

set_option maxRecDepth 100000 in
set_option maxHeartbeats 8000000 in
theorem tbytes_any (g : Geo) (v : Value) (l : List Ent) (w : World) (Mi : Ms) (h : SlR w Mi v l) (hl : l.length ≤ 100000) :
    Calls Try.prog 64 #[gv g, .agg #[v]] w fun e w' => TbytesP w' w.heap.size g l e ∧ Below w.heap.size w w' := by
  obtain ⟨a, c, rfl⟩ := h.form
  have hb1 := (Below.refl w.heap.size w).alloc (Nat.le_refl _) (.cells #[.int .i64 g.z, .int .i64 g.d, .int .i64 g.sp, .int .i64 g.sl, .int .i64 g.an] 23)
  have hb2 := hb1.alloc (by simp) (.cells #[.slice a l.length c] 89)
  have hT := Blk.new (w.alloc (.cells #[.int .i64 g.z, .int .i64 g.d, .int .i64 g.sp, .int .i64 g.sl, .int .i64 g.an] 23)) 89 #[.slice a l.length c]
  simp only [World.size_alloc] at hT
  have HB := Lib.hid hb2
  have HT := Lib.hid hT
  have H := Lib.hid h.bare
  have hck := Lib.hid (tcheck_any g _ l _ noM (h.bare.mono (Keep.below hb2)) (by omega))
  unfold gv at hck ⊢
  clear hb1 hb2 hT h
  cases hok : okT g l with
  | false =>
    have hE := Lib.hid hok
    rw [hok] at hck
    unfold errV at hck
    clear hok
    go_enter Try.func64, Try.ntmps64
    go_wp2_with fail
    ((with_reducible refine hck.out.mono ?_); rintro e w1 ⟨rfl, hB1⟩)
    go_wp2
    go_ret2
    exact ⟨.inr ⟨hE.out, rfl⟩, HB.out.trans (hB1.mono HB.out.size)⟩
  | true =>
    have hE := Lib.hid hok
    have hall : Hid (∀ x ∈ l, entOk x = true) := Lib.hid (by
      simp only [okT, Bool.and_eq_true, List.all_eq_true] at hok
      exact hok.1.2)
    rw [hok] at hck
    unfold errV at hck
    clear hok
    go_enter Try.func64, Try.ntmps64
    go_wp2_with fail
    ((with_reducible refine hck.out.mono ?_); rintro e w1 ⟨rfl, hB1⟩)
    obtain ⟨t1, t2, t3⟩ := (HT.out.below hB1).all
    have HB1 := Lib.hid (HB.out.trans (hB1.mono HB.out.size))
    clear hB1
    go_wp2
    clear t1 t2 t3
    go_loopg [7, 22] l.length (fun g s7 s22 wr => ∃ k : Nat, s22 = .int .i64 k ∧ k ≤ l.length ∧ l.length - k ≤ g ∧ Hid (OwR wr noM w.heap.size 5 s7 (tblB (l.take k)) ∧ Below w.heap.size w wr))
    case atStart => exact ⟨0, rfl, Nat.zero_le _, by omega, Lib.hid ⟨OwR.nil _ _ _ _, HB1.out⟩⟩
    case round =>
      obtain ⟨k, rfl, hkl, hg, hI⟩ := hrel
      obtain ⟨w0, rfl⟩ : ∃ w0, w0 = wr := ⟨_, rfl⟩
      by_cases hlt : k < l.length
      · obtain ⟨ho, hB⟩ := hI.out
        obtain ⟨b1, o1, rfl, -, x1, x2, x3⟩ := ent_at (H.out.mono (Keep.below hB)) hlt
        have hlt' : (k : Int) < l.length := by omega
        have hst := Lib.hid (tblB_step hlt)
        have hfit := Lib.hid (ent_fits (hall.out l[k] (List.getElem_mem hlt)))
        have hol := tblB_len (l.take k)
        rw [List.length_take] at hol
        have hol := Lib.hid hol
        have HO := Lib.hid ho
        have HB0 := Lib.hid hB
        clear ho hB hI
        cases hlo : l[k].lost with
        | false =>
          rw [hlo] at x3
          have hrow := row_lit [l[k].stamp, l[k].sum, lostN l[k].lost] [4, 4, 1] (w0.alloc (.cells #[.int .i64 l[k].stamp, .int .i64 l[k].sum, .bool l[k].lost] 110)) rfl (by simp) hfit.out
          have hlB := (Below.refl w0.heap.size w0).alloc (Nat.le_refl _) (.cells #[.int .i64 l[k].stamp, .int .i64 l[k].sum, .bool l[k].lost] 110)
          have hen := Lib.hid (show rowB [l[k].stamp, l[k].sum, lostN l[k].lost] [4, 4, 1] = entB l[k] from rfl)
          rw [hen.out, hlo] at hrow
          rw [hlo] at hlB
          simp only [lostN, List.map_cons, List.map_nil, List.length_cons, List.length_nil, Nat.reduceAdd, Bool.false_eq_true, if_true, if_false, World.size_alloc] at hrow
          have hrow := Lib.hid hrow
          have hlB := Lib.hid hlB
          clear hlo
          have hel := entB_len l[k]
          have hbd : (tblB (l.take k)).length + (entB l[k]).length ≤ 1000000000 := by rw [hol.out, hel]; omega
          clear hel
          obtain ⟨eb, heb⟩ : ∃ eb, eb = entB l[k] := ⟨_, rfl⟩
          rw [← heb] at hrow hst hbd
          clear heb hen
          go_wp2_with fail
          ((with_reducible refine hrow.out.mono ?_); rintro e w2 ⟨r2, rfl, ho2, hB2⟩)
          have HB2 := Lib.hid (hlB.out.trans (hB2.mono (Nat.le_succ _)))
          have O7 := Lib.hid (HO.out.below HB2.out)
          have HB3 := Lib.hid (HB0.out.trans (HB2.out.mono HB0.out.size))
          have ho2 := ho2.mono_base (Nat.le_succ _)
          obtain ⟨A2, C2, rfl⟩ := ho2.form
          have hS := Lib.hid (show SlR w2 (fun b => noM b ∨ u7.ownBlock = some b) (.slice A2 eb.length C2) eb from (OwR.pl plU ho2).sl' (fun b hb hm => hm.elim (fun h => h) (fun h => by have a1 := HO.out.own_lt h; have a2 := ho2.own_ge hb; omega)))
          clear ho2 hB2 hrow
          go_wp2_with (at_builtin; go_must (refine wpList_append_R (α := UInt8) (M := noM) (base := w.heap.size) (l := tblB (l.take k)) (m := eb) rfl (by rfl) tyB (by rfl) O7.out (by rfl) hS.out hbd HB3.out.size ?_); intro v4 w4 ho4 hg4 hat4)
          go_roundg (l.length - (k + 1))
          case measure => omega
          case rel => exact ⟨k + 1, by go_num, by omega, by omega, Lib.hid ⟨by rw [hst.out]; exact ho4, HB3.out.grown hg4 HB3.out.size (fun b e => O7.out.own_ge e)⟩⟩
        | true =>
          rw [hlo] at x3
          have hrow := row_lit [l[k].stamp, l[k].sum, lostN l[k].lost] [4, 4, 1] (w0.alloc (.cells #[.int .i64 l[k].stamp, .int .i64 l[k].sum, .bool l[k].lost] 110)) rfl (by simp) hfit.out
          have hlB := (Below.refl w0.heap.size w0).alloc (Nat.le_refl _) (.cells #[.int .i64 l[k].stamp, .int .i64 l[k].sum, .bool l[k].lost] 110)
          have hen := Lib.hid (show rowB [l[k].stamp, l[k].sum, lostN l[k].lost] [4, 4, 1] = entB l[k] from rfl)
          rw [hen.out, hlo] at hrow
          rw [hlo] at hlB
          simp only [lostN, List.map_cons, List.map_nil, List.length_cons, List.length_nil, Nat.reduceAdd, Bool.false_eq_true, if_true, if_false, World.size_alloc] at hrow
          have hrow := Lib.hid hrow
          have hlB := Lib.hid hlB
          clear hlo
          have hel := entB_len l[k]
          have hbd : (tblB (l.take k)).length + (entB l[k]).length ≤ 1000000000 := by rw [hol.out, hel]; omega
          clear hel
          obtain ⟨eb, heb⟩ : ∃ eb, eb = entB l[k] := ⟨_, rfl⟩
          rw [← heb] at hrow hst hbd
          clear heb hen
          go_wp2_with fail
          ((with_reducible refine hrow.out.mono ?_); rintro e w2 ⟨r2, rfl, ho2, hB2⟩)
          have HB2 := Lib.hid (hlB.out.trans (hB2.mono (Nat.le_succ _)))
          have O7 := Lib.hid (HO.out.below HB2.out)
          have HB3 := Lib.hid (HB0.out.trans (HB2.out.mono HB0.out.size))
          have ho2 := ho2.mono_base (Nat.le_succ _)
          obtain ⟨A2, C2, rfl⟩ := ho2.form
          have hS := Lib.hid (show SlR w2 (fun b => noM b ∨ u7.ownBlock = some b) (.slice A2 eb.length C2) eb from (OwR.pl plU ho2).sl' (fun b hb hm => hm.elim (fun h => h) (fun h => by have a1 := HO.out.own_lt h; have a2 := ho2.own_ge hb; omega)))
          clear ho2 hB2 hrow
          go_wp2_with (at_builtin; go_must (refine wpList_append_R (α := UInt8) (M := noM) (base := w.heap.size) (l := tblB (l.take k)) (m := eb) rfl (by rfl) tyB (by rfl) O7.out (by rfl) hS.out hbd HB3.out.size ?_); intro v4 w4 ho4 hg4 hat4)
          go_roundg (l.length - (k + 1))
          case measure => omega
          case rel => exact ⟨k + 1, by go_num, by omega, by omega, Lib.hid ⟨by rw [hst.out]; exact ho4, HB3.out.grown hg4 HB3.out.size (fun b e => O7.out.own_ge e)⟩⟩
      · obtain rfl : k = l.length := by omega
        rw [List.take_length] at hI
        go_wp2
        go_ret2
        exact ⟨.inl ⟨hE.out, _, rfl, hI.out.1⟩, hI.out.2⟩
end Go.Proofs.Ytpknhpfbinplgaa
