/-
Package rec: a record's bytes as plain data; rec.Check; the sizes of a record's numbers.
-/
import Derived.Test.YtpknhpfbinplgaaRcBehind
namespace Go.Proofs.Ytpknhpfbinplgaa
open Go.RowKit
attribute [local go_sem ↓] Go.wp_at_zero Go.wp_at_succ

def okR (g : Geo) (r : Rc) : Bool := okG g && behOk g r
def whatB (n : Int) : Int := if n = -1 then 254 else n
abbrev szR : List Int := [1, 4, 4, 1, 1]
def numsOf (r : Rc) : List Int := [r.kind, r.seq, r.epoch, r.at_, r.of_]
def imgB (x : Img) : List UInt8 := rowB [x.zone, whatB x.what] [1, 1] ++ (UInt8.ofNat x.bytes.length :: x.bytes)
def recB (r : Rc) : List UInt8 := rowB (numsOf r) szR ++ (if r.kind = 1 then imgB r.img else [])

theorem imgOk_parts {g : Geo} {x : Img} (h : imgOk g x = true) : okG g = true ∧ (0 ≤ x.zone ∧ x.zone ≤ g.z - 1) ∧ ((x.what = 255 ∧ ∃ l, readT g x.bytes = some l) ∨ (x.what ≠ 255 ∧ (-1 ≤ x.what ∧ x.what ≤ g.d - 1) ∧ x.bytes.length = 8)) := by
  simp only [imgOk, Bool.and_eq_true] at h
  obtain ⟨h1, h2, h3⟩ := h
  refine ⟨h1, inB_iff.1 h2, ?_⟩
  by_cases hw : x.what = 255
  · rw [if_pos hw] at h3
    exact .inl ⟨hw, Option.isSome_iff_exists.1 h3⟩
  · rw [if_neg hw] at h3
    simp only [Bool.and_eq_true, decide_eq_true_eq] at h3
    exact .inr ⟨hw, inB_iff.1 h3.1, h3.2⟩
theorem readT_len {g : Geo} {b : List UInt8} {l : List Ent} (h : readT g b = some l) : b.length = 9 * (g.d + 1).toNat := by
  unfold readT at h
  split at h
  · rename_i h2
    have := congrArg List.length h2.2
    rw [tblB_len, entsOf_len] at this
    exact this.symm
  · cases h
theorem img_short {g : Geo} {x : Img} (h : imgOk g x = true) : x.bytes.length ≤ 45 := by
  obtain ⟨h1, -, h3⟩ := imgOk_parts h
  obtain ⟨-, hd, -⟩ := okG_iff.1 h1
  rcases h3 with ⟨-, l, hl⟩ | ⟨-, -, h8⟩
  · have := readT_len hl
    omega
  · omega
theorem img_fits {g : Geo} {x : Img} (h : imgOk g x = true) : ∀ k (_ : k < [x.zone, whatB x.what].length) (b : k < [(1 : Int), 1].length), szOk [(1 : Int), 1][k] ∧ 0 ≤ [x.zone, whatB x.what][k] ∧ [x.zone, whatB x.what][k] < limS [(1 : Int), 1][k] := by
  obtain ⟨h1, h2, h3⟩ := imgOk_parts h
  obtain ⟨hz, hd, -⟩ := okG_iff.1 h1
  intro k a _
  match k, a with
  | 0, _ =>
    refine ⟨.inl rfl, h2.1, ?_⟩
    show x.zone < 256
    omega
  | 1, _ =>
    refine ⟨.inl rfl, ?_, ?_⟩
    · show 0 ≤ whatB x.what
      unfold whatB
      split <;> omega
    · show whatB x.what < 256
      unfold whatB
      split <;> omega
theorem okR_parts {g : Geo} {r : Rc} (h : okR g r = true) : okG g = true ∧
    ((r.kind = 0 ∧ r.seq = 0 ∧ r.epoch = 0 ∧ r.at_ = 0 ∧ r.of_ = 0 ∧ r.img.zone = 0 ∧ r.img.what = 0 ∧ r.img.bytes = []) ∨
     (r.kind = 1 ∧ (0 ≤ r.seq ∧ r.seq ≤ 4294967295) ∧ (0 ≤ r.epoch ∧ r.epoch ≤ 4294967295) ∧ (2 ≤ r.of_ ∧ r.of_ ≤ 30) ∧ (0 ≤ r.at_ ∧ r.at_ ≤ r.of_ - 2) ∧ imgOk g r.img = true) ∨
     (r.kind = 2 ∧ (0 ≤ r.seq ∧ r.seq ≤ 4294967295) ∧ (0 ≤ r.epoch ∧ r.epoch ≤ 4294967295) ∧ (2 ≤ r.of_ ∧ r.of_ ≤ 30) ∧ r.at_ = r.of_ - 1 ∧ r.img.zone = 0 ∧ r.img.what = 0 ∧ r.img.bytes = [])) := by
  simp only [okR, Bool.and_eq_true] at h
  refine ⟨h.1, ?_⟩
  have h2 := h.2
  unfold behOk at h2
  split at h2
  · rename_i hk
    simp [noneB] at h2
    exact .inl ⟨hk, h2.1, h2.2.1, h2.2.2.1, h2.2.2.2.1, h2.2.2.2.2.1, h2.2.2.2.2.2.1, h2.2.2.2.2.2.2⟩
  · split at h2
    · rename_i hk
      simp only [numsB, Bool.and_eq_true, inB_iff] at h2
      exact .inr (.inl ⟨hk, h2.1.1, h2.1.2.1, h2.1.2.2, h2.2.1, h2.2.2⟩)
    · split at h2
      · rename_i hk
        simp only [numsB, noneB, Bool.and_eq_true, inB_iff, beq_iff_eq] at h2
        refine .inr (.inr ⟨hk, h2.1.1, h2.1.2.1, h2.1.2.2, h2.2.1, h2.2.2.1, h2.2.2.2.1, ?_⟩)
        exact List.eq_nil_of_length_eq_zero (by omega)
      · cases h2
theorem rec_fits {g : Geo} {r : Rc} (h : okR g r = true) : ∀ k (_ : k < (numsOf r).length) (b : k < szR.length), szOk szR[k] ∧ 0 ≤ (numsOf r)[k] ∧ (numsOf r)[k] < limS szR[k] := by
  obtain ⟨-, h⟩ := okR_parts h
  intro k a _
  have e1 : limS 1 = 256 := rfl
  have e4 : limS 4 = 4294967296 := rfl
  match k, a with
  | 0, _ => exact ⟨.inl rfl, by show 0 ≤ r.kind; omega, by show r.kind < limS 1; omega⟩
  | 1, _ => exact ⟨.inr (.inr rfl), by show 0 ≤ r.seq; omega, by show r.seq < limS 4; omega⟩
  | 2, _ => exact ⟨.inr (.inr rfl), by show 0 ≤ r.epoch; omega, by show r.epoch < limS 4; omega⟩
  | 3, _ => exact ⟨.inl rfl, by show 0 ≤ r.at_; omega, by show r.at_ < limS 1; omega⟩
  | 4, _ => exact ⟨.inl rfl, by show 0 ≤ r.of_; omega, by show r.of_ < limS 1; omega⟩

theorem sizes_any (w : World) : Calls Try.prog 35 #[] w fun e w' => e = .returned (.slice (some ⟨w.heap.size, 0, none⟩) 5 5) ∧ w' = w.alloc (.cells #[.int .i64 1, .int .i64 4, .int .i64 4, .int .i64 1, .int .i64 1] 3) := by
  go_enter Try.func35, Try.ntmps35
  go_wp2
  go_ret
  exact ⟨rfl, rfl⟩

set_option maxHeartbeats 4000000 in
theorem rcheck_any (g : Geo) (r : Rc) (v : Value) (w : World) (Mi : Ms) (h : SlR w Mi v r.img.bytes) (hl : r.img.bytes.length ≤ 100000) :
    Calls Try.prog 17 #[gv g, rv r v] w fun e w' => e = .returned (errV (okR g r)) ∧ Below w.heap.size w w' := by
  obtain ⟨kind, seq, epoch, at_, of_, ⟨zone, what, bytes⟩⟩ := r
  obtain ⟨z, d, sp, sl, an⟩ := g
  simp only at h hl
  obtain ⟨a, c, rfl⟩ := h.form
  have hb1 := (Below.refl w.heap.size w).alloc (Nat.le_refl _) (.cells #[.int .i64 z, .int .i64 d, .int .i64 sp, .int .i64 sl, .int .i64 an] 23)
  have hb2 := hb1.alloc (by simp) (.cells #[.int .i64 kind, .int .i64 seq, .int .i64 epoch, .int .i64 at_, .int .i64 of_, .int .i64 zone, .int .i64 what, .slice a bytes.length c] 28)
  have hG := (Blk.new w 23 #[.int .i64 z, .int .i64 d, .int .i64 sp, .int .i64 sl, .int .i64 an]).alloc (.cells #[.int .i64 kind, .int .i64 seq, .int .i64 epoch, .int .i64 at_, .int .i64 of_, .int .i64 zone, .int .i64 what, .slice a bytes.length c] 28)
  have hbe := Lib.hid (behind_any ⟨z, d, sp, sl, an⟩ ⟨kind, seq, epoch, at_, of_, ⟨zone, what, bytes⟩⟩ (.slice a bytes.length c) _ Mi (h.mono (Keep.below hb2)) hl)
  have hE := Lib.hid (show okR ⟨z, d, sp, sl, an⟩ ⟨kind, seq, epoch, at_, of_, ⟨zone, what, bytes⟩⟩ = (okG ⟨z, d, sp, sl, an⟩ && behOk ⟨z, d, sp, sl, an⟩ ⟨kind, seq, epoch, at_, of_, ⟨zone, what, bytes⟩⟩) from rfl)
  rw [hE.out]
  obtain ⟨V, hV⟩ : ∃ V, V = behV ⟨kind, seq, epoch, at_, of_, ⟨zone, what, bytes⟩⟩ (.slice a bytes.length c) := ⟨_, rfl⟩
  rw [← hV] at hbe
  unfold gv rv at hbe ⊢
  simp only at hbe ⊢
  have HB := Lib.hid hb2
  have HG := Lib.hid hG
  clear hb1 hb2 hG hE hV h
  obtain ⟨bo, hbo⟩ : ∃ bo, bo = behOk ⟨z, d, sp, sl, an⟩ ⟨kind, seq, epoch, at_, of_, ⟨zone, what, bytes⟩⟩ := ⟨_, rfl⟩
  obtain ⟨bg, hbg⟩ : ∃ bg, bg = okG ⟨z, d, sp, sl, an⟩ := ⟨_, rfl⟩
  rw [← hbo] at hbe ⊢
  rw [← hbg]
  have hgc := fun w => gcheck_any ⟨z, d, sp, sl, an⟩ w
  rw [← hbg] at hgc
  unfold gv errV at hgc
  simp only at hgc
  clear hbo hbg
  cases bg with
  | false =>
    go_enter Try.func17, Try.ntmps17
    go_wp2_with fail
    ((with_reducible refine hbe.out.mono ?_); rintro e w1 ⟨rfl, hB1⟩)
    obtain ⟨g1, g2, g3⟩ := (HG.out.below hB1).all
    have HB1 := Lib.hid (HB.out.trans (hB1.mono HB.out.size))
    clear hB1
    go_wp2_with fail
    ((with_reducible refine (hgc _).mono ?_); rintro e w2 ⟨rfl, hB2⟩)
    have HB2 := Lib.hid (HB1.out.trans (hB2.mono HB1.out.size))
    go_wp2
    go_ret
    exact ⟨rfl, HB2.out⟩
  | true =>
    cases bo with
    | false =>
      go_enter Try.func17, Try.ntmps17
      go_wp2_with fail
      ((with_reducible refine hbe.out.mono ?_); rintro e w1 ⟨rfl, hB1⟩)
      obtain ⟨g1, g2, g3⟩ := (HG.out.below hB1).all
      have HB1 := Lib.hid (HB.out.trans (hB1.mono HB.out.size))
      clear hB1
      go_wp2_with fail
      ((with_reducible refine (hgc _).mono ?_); rintro e w2 ⟨rfl, hB2⟩)
      have HB2 := Lib.hid (HB1.out.trans (hB2.mono HB1.out.size))
      go_wp2
      go_ret
      exact ⟨rfl, HB2.out⟩
    | true =>
      go_enter Try.func17, Try.ntmps17
      go_wp2_with fail
      ((with_reducible refine hbe.out.mono ?_); rintro e w1 ⟨rfl, hB1⟩)
      obtain ⟨g1, g2, g3⟩ := (HG.out.below hB1).all
      have HB1 := Lib.hid (HB.out.trans (hB1.mono HB.out.size))
      clear hB1
      go_wp2_with fail
      ((with_reducible refine (hgc _).mono ?_); rintro e w2 ⟨rfl, hB2⟩)
      have HB2 := Lib.hid (HB1.out.trans (hB2.mono HB1.out.size))
      go_wp2
      go_ret
      exact ⟨rfl, HB2.out⟩
end Go.Proofs.Ytpknhpfbinplgaa
