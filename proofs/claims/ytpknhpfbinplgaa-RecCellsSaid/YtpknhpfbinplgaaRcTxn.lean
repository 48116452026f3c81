/-
rec.Txn.
-/
import Derived.Test.YtpknhpfbinplgaaRcRread
namespace Go.Proofs.Ytpknhpfbinplgaa
open Go.RowKit
attribute [local go_sem ↓] Go.wp_at_zero Go.wp_at_succ

theorem OwR.box {α : Type} [Rp α] {w w' : World} {M : Ms} {base g : Nat} {e : TypeId} {v : Value} {l : List α} (h : OwR w M base e v l) (hb : Below w.heap.size w w') (hg : w.heap.size ≤ g) : OwR w' (Ms.and M g) base e v l := by
  obtain ⟨xs, ho, he⟩ := h
  refine ⟨xs, (ho.kept (row := none) ⟨hb.os, hb.tape, hb.output, hb.size, fun k hk _ => hb.block k hk⟩ (by cases v.ownBlock <;> simp)), he.mono fun cs x _ => Rp.mono fun b hb' hm => ⟨fun h' => ?_, hb.block b hb'⟩⟩
  rcases h' with (h' | h') | h'
  · exact hm (.inl h')
  · omega
  · exact hm (.inr h')

/-- The first k images' records. -/
def imgR (seq epoch of_ : Int) (k : Nat) (l : List Img) : List Rc := ((l.take k).zipIdx).map fun p => ⟨1, seq, epoch, (p.2 : Nat), of_, p.1⟩
theorem imgR_step (seq epoch of_ : Int) {k : Nat} {l : List Img} (hk : k < l.length) : imgR seq epoch of_ (k + 1) l = imgR seq epoch of_ k l ++ [⟨1, seq, epoch, (k : Nat), of_, l[k]⟩] := by
  unfold imgR
  rw [List.take_add_one, List.getElem?_eq_getElem hk, List.zipIdx_append, List.map_append]
  simp [Nat.min_eq_left (Nat.le_of_lt hk)]
theorem imgR_len (seq epoch of_ : Int) (k : Nat) (l : List Img) : (imgR seq epoch of_ k l).length = min k l.length := by
  unfold imgR; simp
/-- A transaction's records. -/
def recsOf (seq epoch : Int) (l : List Img) : List Rc := imgR seq epoch (l.length + 1) l.length l ++ [⟨2, seq, epoch, l.length, l.length + 1, noImg⟩]
def txnE (g : Geo) (seq epoch : Int) (l : List Img) : Int :=
  if (okG g && (inB seq 0 4294967295 && inB epoch 0 4294967295)) = false then 1
  else if l.all (imgOk g) = false then 1
  else if inB l.length 1 29 = false then 2 else 0
def TxnP (w' : World) (base : Nat) (g : Geo) (seq epoch : Int) (l : List Img) (e : Ending) : Prop :=
  (txnE g seq epoch l = 0 ∧ ∃ v, e = .returned (.tuple #[v, .int .i64 0]) ∧ OwR w' noM base 28 v (recsOf seq epoch l)) ∨
  (txnE g seq epoch l ≠ 0 ∧ e = .returned (.tuple #[.slice none 0 0, .int .i64 (txnE g seq epoch l)]))

set_option maxRecDepth 100000 in
set_option maxHeartbeats 16000000 in
theorem txn_any (g : Geo) (seq epoch : Int) (v : Value) (l : List Img) (w : World) (Mi : Ms) (h : SlR w Mi v l) (hl : l.length ≤ 100000) (hb : ∀ x ∈ l, x.bytes.length ≤ 100000) :
    Calls Try.prog 16 #[gv g, .int .i64 seq, .int .i64 epoch, v] w fun e w' => TxnP w' w.heap.size g seq epoch l e ∧ Below w.heap.size w w' := by
  obtain ⟨z, d, sp, sl, an⟩ := g
  obtain ⟨a, c, rfl⟩ := h.form
  have hb1 := (Below.refl w.heap.size w).alloc (Nat.le_refl _) (.cells #[.int .i64 z, .int .i64 d, .int .i64 sp, .int .i64 sl, .int .i64 an] 23)
  have HB := Lib.hid hb1
  have HG := Lib.hid (Blk.new w 23 #[.int .i64 z, .int .i64 d, .int .i64 sp, .int .i64 sl, .int .i64 an])
  have H := Lib.hid h.bare
  have HL := Lib.hid hb
  have hgc := Lib.hid (gcheck_any ⟨z, d, sp, sl, an⟩ (w.alloc (.cells #[.int .i64 z, .int .i64 d, .int .i64 sp, .int .i64 sl, .int .i64 an] 23)))
  have hin1 := fun w => rin_any seq 0 4294967295 w
  have hin2 := fun w => rin_any epoch 0 4294967295 w
  unfold gv errV at hgc
  unfold gv
  simp only at hgc ⊢
  clear hb1 h hb
  cases hok : (okG ⟨z, d, sp, sl, an⟩ && (inB seq 0 4294967295 && inB epoch 0 4294967295)) with
  | false =>
    have hE := Lib.hid (show txnE ⟨z, d, sp, sl, an⟩ seq epoch l = 1 by rw [txnE, if_pos hok])
    have HO := Lib.hid hok
    clear hok
    obtain ⟨bg, hbg⟩ : ∃ bg, bg = okG ⟨z, d, sp, sl, an⟩ := ⟨_, rfl⟩
    obtain ⟨b1, hb1⟩ : ∃ b1, b1 = inB seq 0 4294967295 := ⟨_, rfl⟩
    obtain ⟨b2, hb2⟩ : ∃ b2, b2 = inB epoch 0 4294967295 := ⟨_, rfl⟩
    rw [← hbg] at hgc HO
    rw [← hb1] at hin1 HO
    rw [← hb2] at hin2 HO
    clear hbg hb1 hb2
    go_enter Try.func16, Try.ntmps16
    cases bg with
    | false =>
      go_wp2_with (go_at_call 33; go_must (with_reducible refine hgc.out.mono ?_); rintro e w1 ⟨rfl, hB1⟩)
      go_ret2
      refine ⟨.inr ⟨by rw [hE.out]; decide, by rw [hE.out]; rfl⟩, HB.out.trans (hB1.mono HB.out.size)⟩
    | true =>
      cases b1 with
      | false =>
        go_wp2_with (first | (go_at_call 33; go_must (with_reducible refine hgc.out.mono ?_); rintro e w1 ⟨rfl, hB1⟩) | (go_at_call 41; go_must (with_reducible refine (hin1 _).mono ?_); rintro e w1 ⟨rfl, rfl⟩))
        go_ret2
        refine ⟨.inr ⟨by rw [hE.out]; decide, by rw [hE.out]; rfl⟩, HB.out.trans (hB1.mono HB.out.size)⟩
      | true =>
        obtain rfl : b2 = false := by have := HO.out; simpa using this
        go_wp2_with (first | (go_at_call 33; go_must (with_reducible refine hgc.out.mono ?_); rintro e w1 ⟨rfl, hB1⟩) | (go_at_call 41; go_must (first | (with_reducible refine (hin1 _).mono ?_) | (with_reducible refine (hin2 _).mono ?_)); rintro e w1 ⟨rfl, rfl⟩))
        go_ret2
        refine ⟨.inr ⟨by rw [hE.out]; decide, by rw [hE.out]; rfl⟩, HB.out.trans (hB1.mono HB.out.size)⟩
  | true =>
    have hE1 := Lib.hid (show txnE ⟨z, d, sp, sl, an⟩ seq epoch l = if l.all (imgOk ⟨z, d, sp, sl, an⟩) = false then 1 else if inB l.length 1 29 = false then 2 else 0 by rw [txnE, if_neg (by rw [hok]; simp)])
    simp only [Bool.and_eq_true] at hok
    rw [hok.1] at hgc
    rw [hok.2.1] at hin1
    rw [hok.2.2] at hin2
    clear hok
    go_enter Try.func16, Try.ntmps16
    go_wp2_with fail
    ((with_reducible refine hgc.out.mono ?_); rintro e w1 ⟨rfl, hB1⟩)
    have HB1 := Lib.hid (HB.out.trans (hB1.mono HB.out.size))
    have HG1 := Lib.hid (HG.out.below hB1)
    clear hB1 hgc HB HG
    go_wp2_with (go_at_call 41; go_must (first | (with_reducible refine (hin1 _).mono ?_) | (with_reducible refine (hin2 _).mono ?_)); rintro e w1 ⟨rfl, rfl⟩)
    go_loopg [31] l.length (fun g s31 wr => ∃ k : Nat, s31 = .int .i64 k ∧ k ≤ l.length ∧ l.length - k ≤ g ∧ Hid (Below w.heap.size w wr ∧ Blk wr w.heap.size 23 #[.int .i64 z, .int .i64 d, .int .i64 sp, .int .i64 sl, .int .i64 an]) ∧ Hid (∀ x ∈ l.take k, imgOk ⟨z, d, sp, sl, an⟩ x = true))
    case atStart => exact ⟨0, rfl, Nat.zero_le _, by omega, Lib.hid ⟨HB1.out, HG1.out⟩, Lib.hid (by simp)⟩
    case round =>
      obtain ⟨k, rfl, hkl, hg, hI, hA⟩ := hrel
      obtain ⟨w0, rfl⟩ : ∃ w0, w0 = wr := ⟨_, rfl⟩
      by_cases hlt : k < l.length
      · obtain ⟨b1, o1, A1, C1, rfl, -, x1, x2, x3, x4⟩ := img_at (H.out.mono (Keep.below hI.out.1)) hlt
        have hlt' : (k : Int) < l.length := by omega
        have hbA := (Below.refl w0.heap.size w0).alloc (Nat.le_refl _) (.cells #[.int .i64 l[k].zone, .int .i64 l[k].what, .slice A1 l[k].bytes.length C1] 26)
        have him := Lib.hid (image_any ⟨z, d, sp, sl, an⟩ l[k] _ _ noM (x4.mono (Keep.below hbA)) (HL.out _ (List.getElem_mem hlt)))
        unfold gv errV at him
        simp only at him
        obtain ⟨g1, g2, g3⟩ := hI.out.2.all
        have HBA := Lib.hid hbA
        clear x4 hbA
        cases hq : imgOk ⟨z, d, sp, sl, an⟩ l[k] with
        | false =>
          have hE := Lib.hid (show txnE ⟨z, d, sp, sl, an⟩ seq epoch l = 1 by
            rw [hE1.out, if_pos]
            rw [List.all_eq_false]
            exact ⟨l[k], List.getElem_mem hlt, by rw [hq]; simp⟩)
          rw [hq] at him
          clear hq
          go_wp2_with fail
          clear g1 g2 g3
          ((with_reducible refine him.out.mono ?_); rintro e w2 ⟨rfl, hB2⟩)
          have HB2 := Lib.hid (hI.out.1.trans ((HBA.out.trans (hB2.mono HBA.out.size)).mono hI.out.1.size))
          clear hB2
          go_wp2
          go_ret2
          exact ⟨.inr ⟨by rw [hE.out]; decide, by rw [hE.out]; rfl⟩, HB2.out⟩
        | true =>
          have hA2 := Lib.hid (show ∀ x ∈ l.take (k + 1), imgOk ⟨z, d, sp, sl, an⟩ x = true by
            intro x hx
            rw [List.take_add_one, List.getElem?_eq_getElem hlt, List.mem_append] at hx
            rcases hx with hx | hx
            · exact hA.out x hx
            · simp at hx; rw [hx]; exact hq)
          rw [hq] at him
          clear hq
          go_wp2_with fail
          clear g1 g2 g3
          ((with_reducible refine him.out.mono ?_); rintro e w2 ⟨rfl, hB2⟩)
          have hb02 := HBA.out.trans (hB2.mono HBA.out.size)
          have HI2 := Lib.hid (And.intro (hI.out.1.trans (hb02.mono hI.out.1.size)) (hI.out.2.below hb02))
          clear hB2 hb02
          go_wp2
          go_roundg (l.length - (k + 1))
          case measure => omega
          case rel => exact ⟨k + 1, by go_num, by omega, by omega, HI2, hA2⟩
      · obtain rfl : k = l.length := by omega
        have hE2 := Lib.hid (show txnE ⟨z, d, sp, sl, an⟩ seq epoch l = if inB l.length 1 29 = false then 2 else 0 by
          rw [hE1.out, if_neg]
          rw [Bool.not_eq_false, List.all_eq_true]
          have := hA.out
          rwa [List.take_length] at this)
        have HB2 := Lib.hid hI.out.1
        have hin3 := fun w => rin_any (l.length : Int) 1 29 w
        clear hA hI
        cases hq : inB (l.length : Int) 1 29 with
        | false =>
          have hE := Lib.hid (show txnE ⟨z, d, sp, sl, an⟩ seq epoch l = 2 by rw [hE2.out, if_pos hq])
          rw [hq] at hin3
          clear hq hE2
          go_wp2_with (go_at_call 41; go_must (with_reducible refine (hin3 _).mono ?_); rintro e w1 ⟨rfl, rfl⟩)
          go_ret2
          exact ⟨.inr ⟨by rw [hE.out]; decide, by rw [hE.out]; rfl⟩, HB2.out⟩
        | true =>
          have hE := Lib.hid (show txnE ⟨z, d, sp, sl, an⟩ seq epoch l = 0 by rw [hE2.out, if_neg (by rw [hq]; simp)])
          obtain ⟨hq1, hq2⟩ := inB_iff.1 hq
          rw [hq] at hin3
          have hwl : IntKind.i64.wrap ((l.length : Int) + 1) = l.length + 1 := by rw [IntKind.wrap_i64]; omega
          clear hq hE2
          go_wp2_with (go_at_call 41; go_must (with_reducible refine (hin3 _).mono ?_); rintro e w1 ⟨rfl, rfl⟩)
          go_loopg [12, 49] l.length (fun g s12 s49 wr => ∃ k : Nat, s49 = .int .i64 k ∧ k ≤ l.length ∧ l.length - k ≤ g ∧ Hid (OwR wr noM w.heap.size 28 s12 (imgR seq epoch (l.length + 1) k l) ∧ Below w.heap.size w wr))
          case atStart => exact ⟨0, rfl, Nat.zero_le _, by omega, Lib.hid ⟨OwR.nil _ _ _ _, HB2.out⟩⟩
          case round =>
            obtain ⟨k, rfl, hkl, hg, hI⟩ := hrel
            obtain ⟨w0, rfl⟩ : ∃ w0, w0 = wr := ⟨_, rfl⟩
            by_cases hlt : k < l.length
            · obtain ⟨b1, o1, A1, C1, rfl, -, x1, x2, x3, x4⟩ := img_at (H.out.mono (Keep.below hI.out.2)) hlt
              have hlt' : (k : Int) < l.length := by omega
              have hbA := (Below.refl w0.heap.size w0).alloc (Nat.le_refl _) (.cells #[.int .i64 l[k].zone, .int .i64 l[k].what, .slice A1 l[k].bytes.length C1] 26)
              have hcl := Lib.hid (bclone_any _ l[k].bytes _ noM noM (x4.mono (Keep.below hbA)) (by have := HL.out _ (List.getElem_mem hlt); omega))
              have HQA := Lib.hid (Blk.new w0 26 #[.int .i64 l[k].zone, .int .i64 l[k].what, .slice A1 l[k].bytes.length C1])
              have HBA := Lib.hid hbA
              have hst := Lib.hid (imgR_step seq epoch (l.length + 1) hlt)
              have hln := Lib.hid (imgR_len seq epoch (l.length + 1) k l)
              clear x4 hbA
              go_wp2_with fail
              ((with_reducible refine hcl.out.mono ?_); rintro e w2 ⟨r, rfl, hor, hB2⟩)
              obtain ⟨Ar, Cr, rfl⟩ := hor.form
              have hQ2 := HQA.out.below hB2
              obtain ⟨q1, q2, q3⟩ := hQ2.all
              have hb02 := HBA.out.trans (hB2.mono HBA.out.size)
              have hrq : (Value.slice Ar l[k].bytes.length Cr).ownBlock ≠ some w0.heap.size := fun e => by have := hor.own_ge e; simp at this; omega
              have hb3 := (hb02.setCell (p := ⟨w0.heap.size, 2, none⟩) (Nat.le_refl _) (.slice Ar l[k].bytes.length Cr))
              have hb4 := hb3.alloc (by simp; omega) (.cells #[.int .i64 1, .int .i64 seq, .int .i64 epoch, .int .i64 k, .int .i64 (l.length + 1), .int .i64 l[k].zone, .int .i64 l[k].what, .slice Ar l[k].bytes.length Cr] 28)
              have hor3 := (hor.setP plU (p := ⟨w0.heap.size, 2, none⟩) hrq (.slice Ar l[k].bytes.length Cr)).alloc (.cells #[.int .i64 1, .int .i64 seq, .int .i64 epoch, .int .i64 k, .int .i64 (l.length + 1), .int .i64 l[k].zone, .int .i64 l[k].what, .slice Ar l[k].bytes.length Cr] 28)
              have O3 := Lib.hid ((((hI.out.1.box hb02 (Nat.le_refl _)).setCell (p := ⟨w0.heap.size, 2, none⟩) (fun e => by have := hI.out.1.own_lt e; simp at this) (.inr rfl) (.slice Ar l[k].bytes.length Cr)).alloc (.cells #[.int .i64 1, .int .i64 seq, .int .i64 epoch, .int .i64 k, .int .i64 (l.length + 1), .int .i64 l[k].zone, .int .i64 l[k].what, .slice Ar l[k].bytes.length Cr] 28)).less (M' := noM) (fun b h => h.elim))
              have HB3 := Lib.hid (hI.out.2.trans (hb4.mono hI.out.2.size))
              have hlk : (imgR seq epoch (l.length + 1) k l).length + 1 ≤ 1000000000 := by rw [hln.out]; omega
              have hown : ∀ b, u12.ownBlock = some b → b < w0.heap.size := fun b e => hI.out.1.own_lt e
              have hS3 := Lib.hid (show SlR ((w2.setCell ⟨w0.heap.size, 2, none⟩ (.slice Ar l[k].bytes.length Cr)).alloc (.cells #[.int .i64 1, .int .i64 seq, .int .i64 epoch, .int .i64 k, .int .i64 (l.length + 1), .int .i64 l[k].zone, .int .i64 l[k].what, .slice Ar l[k].bytes.length Cr] 28)) (fun b => noM b ∨ u12.ownBlock = some b) (.slice (some ⟨w2.heap.size, 0, none⟩) 1 1) [(⟨1, seq, epoch, k, l.length + 1, l[k]⟩ : Rc)] from by
                have hbl := Blk.new (w2.setCell ⟨w0.heap.size, 2, none⟩ (.slice Ar l[k].bytes.length Cr)) 28 #[.int .i64 1, .int .i64 seq, .int .i64 epoch, .int .i64 k, .int .i64 (l.length + 1), .int .i64 l[k].zone, .int .i64 l[k].what, .slice Ar l[k].bytes.length Cr]
                have := SlR.one (M := fun b => noM b ∨ u12.ownBlock = some b) (x := (⟨1, seq, epoch, k, l.length + 1, l[k]⟩ : Rc)) hbl ⟨_, rfl, (OwR.pl plU hor3).sl' (fun b hb hm => hm.elim (fun h => h) (fun h => by have a1 := hown b h; have a2 := hor3.own_ge hb; simp at a2; omega))⟩ (fun hm => hm.elim (fun h => h) (fun h => by have a1 := hown _ h; simp at a1; omega))
                simpa using this)
              clear hb02 hor hcl hrq hb3 hb4 hor3 hown hQ2 hB2
              go_wp2_with (at_builtin; go_must (refine wpList_append_R (α := Rc) (M := noM) (base := w.heap.size) (l := imgR seq epoch (l.length + 1) k l) (m := [(⟨1, seq, epoch, k, l.length + 1, l[k]⟩ : Rc)]) rfl (by rfl) tyR (by rfl) O3.out (by rfl) hS3.out (by simpa using hlk) HB3.out.size ?_); intro v4 w4 ho4 hg4 hat4)
              rw [← hst.out] at ho4
              have HX := Lib.hid (And.intro ho4 (HB3.out.grown hg4 HB3.out.size (fun b e => O3.out.own_ge e)))
              clear ho4 hg4 hat4
              go_roundg (l.length - (k + 1))
              case measure => omega
              case rel => exact ⟨k + 1, by go_num, by omega, by omega, HX⟩
            · obtain rfl : k = l.length := by omega
              have hw1 : IntKind.i64.wrap ((l.length : Int) + 1 - 1) = l.length := by rw [IntKind.wrap_i64]; omega
              have hbA := (Below.refl w0.heap.size w0).alloc (Nat.le_refl _) (.cells #[.int .i64 2, .int .i64 seq, .int .i64 epoch, .int .i64 l.length, .int .i64 (l.length + 1), .int .i64 0, .int .i64 0, .slice none 0 0] 28)
              have O3 := Lib.hid (hI.out.1.below hbA)
              have HB3 := Lib.hid (hI.out.2.trans (hbA.mono hI.out.2.size))
              have hlk : (imgR seq epoch (l.length + 1) l.length l).length + 1 ≤ 1000000000 := by rw [imgR_len]; omega
              have hown : ∀ b, u12.ownBlock = some b → b < w0.heap.size := fun b e => hI.out.1.own_lt e
              have hS3 := Lib.hid (show SlR (w0.alloc (.cells #[.int .i64 2, .int .i64 seq, .int .i64 epoch, .int .i64 l.length, .int .i64 (l.length + 1), .int .i64 0, .int .i64 0, .slice none 0 0] 28)) (fun b => noM b ∨ u12.ownBlock = some b) (.slice (some ⟨w0.heap.size, 0, none⟩) 1 1) [(⟨2, seq, epoch, l.length, l.length + 1, noImg⟩ : Rc)] from
                SlR.one (M := fun b => noM b ∨ u12.ownBlock = some b) (x := (⟨2, seq, epoch, l.length, l.length + 1, noImg⟩ : Rc)) (Blk.new w0 28 #[.int .i64 2, .int .i64 seq, .int .i64 epoch, .int .i64 l.length, .int .i64 (l.length + 1), .int .i64 0, .int .i64 0, .slice none 0 0]) ⟨_, rfl, sl_nil _ _ _ (by simp [maxLen])⟩ (fun hm => hm.elim (fun h => h) (fun h => by have a1 := hown _ h; omega)))
              clear hbA hown hI
              go_wp2_with (at_builtin; go_must (refine wpList_append_R (α := Rc) (M := noM) (base := w.heap.size) (l := imgR seq epoch (l.length + 1) l.length l) (m := [(⟨2, seq, epoch, l.length, l.length + 1, noImg⟩ : Rc)]) rfl (by rfl) tyR (by rfl) O3.out (by rfl) hS3.out (by simpa using hlk) HB3.out.size ?_); intro v4 w4 ho4 hg4 hat4)
              have HX := Lib.hid (And.intro ho4 (HB3.out.grown hg4 HB3.out.size (fun b e => O3.out.own_ge e)))
              clear ho4 hg4 hat4
              go_wp2
              go_ret2
              exact ⟨.inl ⟨hE.out, _, rfl, HX.out.1⟩, HX.out.2⟩
end Go.Proofs.Ytpknhpfbinplgaa
