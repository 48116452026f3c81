/-
rec.Cell.
-/
import Derived.Test.YtpknhpfbinplgaaRcLog
namespace Go.Proofs.Ytpknhpfbinplgaa
open Go.RowKit
attribute [local go_sem ↓] Go.wp_at_zero Go.wp_at_succ

def cellB (g : Geo) (r : Rc) (copy slot : Int) : List UInt8 := sealB (logAt g copy slot) r.seq (recB r)
def RcellP (w' : World) (base : Nat) (g : Geo) (r : Rc) (copy slot : Int) (e : Ending) : Prop :=
  (okR g r = true ∧ okL g copy slot = true ∧ ∃ v, e = .returned (.tuple #[v, .int .i64 0]) ∧ OwR w' noM base 5 v (cellB g r copy slot)) ∨
  ((okR g r = false ∨ okL g copy slot = false) ∧ e = .returned (.tuple #[.slice none 0 0, .int .i64 1]))
theorem logAt_bounds {g : Geo} {copy slot : Int} (hg : okG g = true) (hl : okL g copy slot = true) : 0 ≤ logAt g copy slot ∧ logAt g copy slot ≤ 65535 := by
  obtain ⟨-, -, -, hs, ha⟩ := okG_iff.1 hg
  simp only [okL, Bool.and_eq_true, inB_iff] at hl
  unfold logAt
  rcases (show copy = 0 ∨ copy = 1 by omega) with rfl | rfl <;> omega
theorem okR_seq {g : Geo} {r : Rc} (h : okR g r = true) : 0 ≤ r.seq ∧ r.seq ≤ 4294967295 := by
  rcases (okR_parts h).2 with h' | h' | h' <;> omega

set_option maxRecDepth 100000 in
set_option maxHeartbeats 8000000 in
theorem rcell_any (g : Geo) (r : Rc) (copy slot : Int) (v : Value) (w : World) (Mi : Ms) (h : SlR w Mi v r.img.bytes) (hl : r.img.bytes.length ≤ 100000) :
    Calls Try.prog 22 #[gv g, rv r v, .int .i64 copy, .int .i64 slot] w fun e w' => RcellP w' w.heap.size g r copy slot e ∧ Below w.heap.size w w' := by
  obtain ⟨kind, seq, epoch, at_, of_, ⟨zone, what, bytes⟩⟩ := r
  obtain ⟨z, d, sp, sl, an⟩ := g
  simp only at h hl
  obtain ⟨a, c, rfl⟩ := h.form
  have hb1 := (Below.refl w.heap.size w).alloc (Nat.le_refl _) (.cells #[.int .i64 z, .int .i64 d, .int .i64 sp, .int .i64 sl, .int .i64 an] 23)
  have hb2 := hb1.alloc (by simp) (.cells #[.int .i64 kind, .int .i64 seq, .int .i64 epoch, .int .i64 at_, .int .i64 of_, .int .i64 zone, .int .i64 what, .slice a bytes.length c] 28)
  have hG := (Blk.new w 23 #[.int .i64 z, .int .i64 d, .int .i64 sp, .int .i64 sl, .int .i64 an]).alloc (.cells #[.int .i64 kind, .int .i64 seq, .int .i64 epoch, .int .i64 at_, .int .i64 of_, .int .i64 zone, .int .i64 what, .slice a bytes.length c] 28)
  have hT := Blk.new (w.alloc (.cells #[.int .i64 z, .int .i64 d, .int .i64 sp, .int .i64 sl, .int .i64 an] 23)) 28 #[.int .i64 kind, .int .i64 seq, .int .i64 epoch, .int .i64 at_, .int .i64 of_, .int .i64 zone, .int .i64 what, .slice a bytes.length c]
  simp only [World.size_alloc] at hT
  have hby := Lib.hid (rbytes_any ⟨z, d, sp, sl, an⟩ ⟨kind, seq, epoch, at_, of_, ⟨zone, what, bytes⟩⟩ (.slice a bytes.length c) _ Mi (h.mono (Keep.below hb2)) hl)
  unfold gv rv at hby ⊢
  simp only at hby ⊢
  have HB := Lib.hid hb2
  have HG := Lib.hid hG
  have HT := Lib.hid hT
  clear hb1 hb2 hG hT h
  go_enter Try.func22, Try.ntmps22
  go_wp2_with fail
  ((with_reducible refine hby.out.mono ?_); rintro e w1 ⟨hU, hB1⟩)
  have HB1 := Lib.hid (HB.out.trans (hB1.mono HB.out.size))
  have HG1 := Lib.hid (HG.out.below hB1)
  have HT1 := Lib.hid (HT.out.below hB1)
  clear hB1 hby HB HG HT
  rcases hU with ⟨hok, vb, rfl, ho⟩ | ⟨hno, rfl⟩
  · have HOK := Lib.hid hok
    have hgk := (okR_parts hok).1
    have HGK := Lib.hid hgk
    obtain ⟨pb, cb, rfl⟩ := ho.form
    obtain ⟨X, hX⟩ : ∃ X, X = recB ⟨kind, seq, epoch, at_, of_, ⟨zone, what, bytes⟩⟩ := ⟨_, rfl⟩
    rw [← hX] at ho ⊢
    have hXs := recB_short hok
    rw [← hX] at hXs
    have HX := Lib.hid hX
    have HO := Lib.hid ho
    have hlg := Lib.hid (log_any ⟨z, d, sp, sl, an⟩ copy slot w1 hgk)
    unfold gv at hlg
    simp only at hlg
    obtain ⟨xs1, xs2⟩ := hXs
    obtain ⟨g1, g2, g3⟩ := HG1.out.all
    clear hok hX ho hgk
    cases hlo : okL ⟨z, d, sp, sl, an⟩ copy slot with
    | false =>
      have HL := Lib.hid hlo
      rw [hlo] at hlg
      simp only [Bool.false_eq_true, if_false] at hlg
      clear hlo
      go_wp2_with fail
      clear g1 g2 g3
      ((with_reducible refine hlg.out.mono ?_); rintro e w2 ⟨rfl, hB2⟩)
      go_wp2
      go_ret2
      exact ⟨.inr ⟨.inr HL.out, rfl⟩, HB1.out.trans (hB2.mono HB1.out.size)⟩
    | true =>
      have HL := Lib.hid hlo
      have hbd := logAt_bounds HGK.out hlo
      rw [hlo] at hlg
      simp only [if_true] at hlg
      obtain ⟨A, hA⟩ : ∃ A, A = logAt ⟨z, d, sp, sl, an⟩ copy slot := ⟨_, rfl⟩
      rw [← hA] at hlg hbd
      have HA := Lib.hid hA
      have hsq := okR_seq HOK.out
      simp only at hsq
      clear hlo hA
      go_wp2_with fail
      clear g1 g2 g3
      ((with_reducible refine hlg.out.mono ?_); rintro e w2 ⟨rfl, hB2⟩)
      have HB2 := Lib.hid (HB1.out.trans (hB2.mono HB1.out.size))
      have hmk := Lib.hid (make_any A seq (.slice pb X.length cb) X w2 noM ((HO.out.below hB2).sl (fun _ _ h => h)) ⟨hbd.1, hbd.2, hsq.1, hsq.2, by omega⟩)
      obtain ⟨t1, t2, t3⟩ := (HT1.out.below hB2).all
      clear hB2 hlg hbd hsq
      go_wp2_with fail
      clear t1 t2 t3
      ((with_reducible refine hmk.out.mono ?_); rintro e w3 ⟨r3, rfl, ho3, hB3⟩)
      have HF := Lib.hid (And.intro (ho3.mono_base (base' := w.heap.size) HB2.out.size) (HB2.out.trans (hB3.mono HB2.out.size)))
      clear ho3 hB3 hmk
      go_wp2
      go_ret2
      refine ⟨.inl ⟨HOK.out, HL.out, _, rfl, ?_⟩, HF.out.2⟩
      have hf := HF.out.1
      rw [HA.out, HX.out] at hf
      exact hf
  · have HN := Lib.hid hno
    clear hno
    go_wp2
    go_ret2
    exact ⟨.inr ⟨.inl HN.out, rfl⟩, HB1.out⟩
end Go.Proofs.Ytpknhpfbinplgaa
