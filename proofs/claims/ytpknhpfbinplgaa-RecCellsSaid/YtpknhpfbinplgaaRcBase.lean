/-
Geometries, images, records, entries, tables as plain data; copies and comparisons of bytes.
-/
import Derived.Test.YtpknhpfbinplgaaRgn3
import Derived.Test.YtpknhpfbinplgaaProg
import Derived.Deep.DeepMust
namespace Go.Proofs.Ytpknhpfbinplgaa
open Go.RowKit
attribute [local go_sem ↓] Go.wp_at_zero Go.wp_at_succ

structure Geo where
  z : Int
  d : Int
  sp : Int
  sl : Int
  an : Int
structure Img where
  zone : Int
  what : Int
  bytes : List UInt8
deriving DecidableEq
structure Rc where
  kind : Int
  seq : Int
  epoch : Int
  at_ : Int
  of_ : Int
  img : Img
deriving DecidableEq
structure Ent where
  stamp : Int
  sum : Int
  lost : Bool
deriving DecidableEq
/-- A geometry as a value. -/
def gv (g : Geo) : Value := .agg #[.int .i64 g.z, .int .i64 g.d, .int .i64 g.sp, .int .i64 g.sl, .int .i64 g.an]
instance : Rp Img where
  sz := 3
  agg := true
  pos := by omega
  E := fun w M cs x => ∃ r, cs = [.int .i64 x.zone, .int .i64 x.what, r] ∧ SlR w M r x.bytes
  len := fun h => by obtain ⟨b, rfl, _⟩ := h; rfl
  one := fun h u hu => by
    obtain ⟨b, rfl, a, c, xs, rfl, _⟩ := h
    simp at hu; rcases hu with rfl | rfl | rfl <;> rfl
  mono := fun k h => by obtain ⟨b, rfl, h1⟩ := h; exact ⟨b, rfl, h1.mono k⟩
instance : Rp Rc where
  sz := 8
  agg := true
  pos := by omega
  E := fun w M cs x => ∃ r, cs = [.int .i64 x.kind, .int .i64 x.seq, .int .i64 x.epoch, .int .i64 x.at_, .int .i64 x.of_, .int .i64 x.img.zone, .int .i64 x.img.what, r] ∧ SlR w M r x.img.bytes
  len := fun h => by obtain ⟨b, rfl, _⟩ := h; rfl
  one := fun h u hu => by
    obtain ⟨b, rfl, a, c, xs, rfl, _⟩ := h
    simp at hu; rcases hu with rfl | rfl | rfl | rfl | rfl | rfl | rfl | rfl <;> rfl
  mono := fun k h => by obtain ⟨b, rfl, h1⟩ := h; exact ⟨b, rfl, h1.mono k⟩
instance : Rp Ent where
  sz := 3
  agg := true
  pos := by omega
  E := fun _ _ cs x => cs = [.int .i64 x.stamp, .int .i64 x.sum, .bool x.lost]
  len := fun h => by rw [h]; rfl
  one := fun h u hu => by rw [h] at hu; simp at hu; rcases hu with rfl | rfl | rfl <;> rfl
  mono := fun _ h => h

section
variable {w : World} {M : Ms} {a : Option Addr} {n c k : Nat}
theorem u8_at {l : List UInt8} (h : SlR w M (.slice a n c) l) (hk : k < l.length) : ∃ b off, a = some ⟨b, off, none⟩ ∧ ¬ M b ∧ w.cell? ⟨b, off + k, none⟩ = some (.int .u8 l[k].toNat) := by
  obtain ⟨b, off, cs, rfl, hm, he, hc⟩ := h.at_ hk
  have he' : cs = [.int .u8 l[k].toNat] := he
  subst he'
  refine ⟨b, off, rfl, hm, ?_⟩
  have := hc 0 _ rfl
  simpa [Rp.sz] using this
theorem int_at {l : List Int} (h : SlR w M (.slice a n c) l) (hk : k < l.length) : ∃ b off, a = some ⟨b, off, none⟩ ∧ ¬ M b ∧ w.cell? ⟨b, off + k, none⟩ = some (.int .i64 l[k]) := by
  obtain ⟨b, off, cs, rfl, hm, he, hc⟩ := h.at_ hk
  have he' : cs = [.int .i64 l[k]] := he
  subst he'
  refine ⟨b, off, rfl, hm, ?_⟩
  have := hc 0 _ rfl
  simpa [Rp.sz] using this
theorem ent_at {l : List Ent} (h : SlR w M (.slice a n c) l) (hk : k < l.length) : ∃ b off, a = some ⟨b, off, none⟩ ∧ ¬ M b ∧ w.cell? ⟨b, off + k * 3, none⟩ = some (.int .i64 l[k].stamp) ∧
    w.cell? ⟨b, off + k * 3 + 1, none⟩ = some (.int .i64 l[k].sum) ∧ w.cell? ⟨b, off + k * 3 + 2, none⟩ = some (.bool l[k].lost) := by
  obtain ⟨b, off, cs, rfl, hm, he, hc⟩ := h.at_ hk
  have he : cs = [.int .i64 l[k].stamp, .int .i64 l[k].sum, .bool l[k].lost] := he
  subst he
  exact ⟨b, off, rfl, hm, hc 0 _ rfl, hc 1 _ rfl, hc 2 _ rfl⟩
theorem img_at {l : List Img} (h : SlR w M (.slice a n c) l) (hk : k < l.length) : ∃ b off A C, a = some ⟨b, off, none⟩ ∧ ¬ M b ∧ w.cell? ⟨b, off + k * 3, none⟩ = some (.int .i64 l[k].zone) ∧
    w.cell? ⟨b, off + k * 3 + 1, none⟩ = some (.int .i64 l[k].what) ∧ w.cell? ⟨b, off + k * 3 + 2, none⟩ = some (.slice A l[k].bytes.length C) ∧ SlR w M (.slice A l[k].bytes.length C) l[k].bytes := by
  obtain ⟨b, off, cs, rfl, hm, he, hc⟩ := h.at_ hk
  obtain ⟨vb, rfl, hb⟩ := he
  obtain ⟨A, C, rfl⟩ := hb.form
  exact ⟨b, off, A, C, rfl, hm, hc 0 _ rfl, hc 1 _ rfl, hc 2 _ rfl, hb⟩
theorem rc_at {l : List Rc} (h : SlR w M (.slice a n c) l) (hk : k < l.length) : ∃ b off A C, a = some ⟨b, off, none⟩ ∧ ¬ M b ∧ w.cell? ⟨b, off + k * 8, none⟩ = some (.int .i64 l[k].kind) ∧
    w.cell? ⟨b, off + k * 8 + 1, none⟩ = some (.int .i64 l[k].seq) ∧ w.cell? ⟨b, off + k * 8 + 2, none⟩ = some (.int .i64 l[k].epoch) ∧ w.cell? ⟨b, off + k * 8 + 3, none⟩ = some (.int .i64 l[k].at_) ∧
    w.cell? ⟨b, off + k * 8 + 4, none⟩ = some (.int .i64 l[k].of_) ∧ w.cell? ⟨b, off + k * 8 + 5, none⟩ = some (.int .i64 l[k].img.zone) ∧ w.cell? ⟨b, off + k * 8 + 6, none⟩ = some (.int .i64 l[k].img.what) ∧
    w.cell? ⟨b, off + k * 8 + 7, none⟩ = some (.slice A l[k].img.bytes.length C) ∧ SlR w M (.slice A l[k].img.bytes.length C) l[k].img.bytes := by
  obtain ⟨b, off, cs, rfl, hm, he, hc⟩ := h.at_ hk
  obtain ⟨vb, rfl, hb⟩ := he
  obtain ⟨A, C, rfl⟩ := hb.form
  exact ⟨b, off, A, C, rfl, hm, hc 0 _ rfl, hc 1 _ rfl, hc 2 _ rfl, hc 3 _ rfl, hc 4 _ rfl, hc 5 _ rfl, hc 6 _ rfl, hc 7 _ rfl, hb⟩
end
theorem sl_nil {α : Type} [Rp α] (w : World) (M : Ms) (c : Nat) (hc : c ≤ maxLen) : SlR w M (.slice none 0 c) ([] : List α) := ⟨none, c, [], rfl, Nat.zero_le _, hc, rfl, fun h => absurd rfl h⟩
theorem SlR.bare {α : Type} [Rp α] {w : World} {M : Ms} {v : Value} {l : List α} (h : SlR w M v l) : SlR w noM v l := h.mono (Keep.less fun _ h' => h'.elim)
/-- Elements that own nothing: an owned row of them keeps away from whatever is older. -/
theorem OwR.plain {α : Type} [Rp α] (hp : ∀ w M M' cs (x : α), Rp.E w M cs x → Rp.E w M' cs x) {w : World} {M M' : Ms} {base : Nat} {e : TypeId} {v : Value} {l : List α} (h : OwR w M base e v l) : OwR w M' base e v l := by
  obtain ⟨xs, ho, he⟩ := h
  exact ⟨xs, ho, he.mono fun cs x _ h => hp _ _ _ _ _ h⟩
theorem noMok (w : World) : MOk w noM := fun _ h => h.elim
theorem tyB : SlT Try.prog 24 5 UInt8 := ⟨Try.underlying24, .int .u8 0, 1, 1, by kernel_rfl, rfl, by omega, rfl⟩
theorem tyI : SlT Try.prog 73 3 Int := ⟨Try.underlying73, .int .i64 0, 1, 8, by kernel_rfl, rfl, by omega, rfl⟩
theorem tyE : SlT Try.prog 87 110 Ent := ⟨Try.underlying87, .agg #[.int .i64 0, .int .i64 0, .bool false], 3, 24, by kernel_rfl, rfl, by omega, rfl⟩
theorem tyR : SlT Try.prog 42 28 Rc := ⟨Try.underlying42, .agg #[.int .i64 0, .int .i64 0, .int .i64 0, .int .i64 0, .int .i64 0, .int .i64 0, .int .i64 0, .slice none 0 0], 8, 80, by kernel_rfl, rfl, by omega, rfl⟩

set_option maxHeartbeats 400000 in
theorem twin_any (v : Value) (l : List UInt8) (w : World) (M Mi : Ms) (h : SlR w Mi v l) (hM : MOk w M) (hl : l.length ≤ 1000000000) :
    Calls Try.prog 14 #[v] w fun e w' => ∃ r, e = .returned r ∧ SlR w' M r l ∧ Below w.heap.size w w' := by
  have hs := h.bare
  go_enter Try.func14, Try.ntmps14
  go_wp2_with (at_builtin; go_must (refine wpList_append_R (α := UInt8) (M := noM) (base := w.heap.size) (l := []) (m := l) (v := .slice none 0 0) (u := v) rfl (by rfl) tyB (by rfl) (OwR.nil _ _ _ _) (by rfl) (hs.mono (Keep.ownNil _ _ _)) (by simpa using hl) (Nat.le_refl _) ?_; intro v1 w1 ho hg hat))
  go_ret
  exact ⟨_, rfl, (OwR.plain (M' := M) (fun _ _ _ _ _ h => h) ho).sl hM.new, Below.ofNil hg⟩

set_option maxHeartbeats 400000 in
theorem bclone_any (v : Value) (l : List UInt8) (w : World) (M Mi : Ms) (h : SlR w Mi v l) (hl : l.length ≤ 1000000000) :
    Calls Try.prog 42 #[v] w fun e w' => ∃ r, e = .returned r ∧ OwR w' M w.heap.size 5 r l ∧ Below w.heap.size w w' := by
  have hs := h.bare
  obtain ⟨a, c, xs, rfl, h1, h2, h3, h4⟩ := id hs
  have he := fun w n => Lib.run_eql_slice_nil (P := Try.prog) w 24 5 a n c 0 0 Try.underlying24
  cases a with
  | none =>
    have hl0 : l = [] := Classical.byContradiction fun hne => by obtain ⟨b, off, e, _⟩ := h4 hne; cases e
    subst hl0
    clear h3 h4 h1 h2 h hs
    simp only [List.length_nil] at hl ⊢
    go_enter Try.func42, Try.ntmps42
    go_wp2
    go_ret
    exact ⟨_, rfl, OwR.nil _ _ _ _, Below.refl _ _⟩
  | some ad =>
    clear h3 h4 h1 h2 h
    go_enter Try.func42, Try.ntmps42
    go_wp2_with (at_builtin; go_must (refine wpList_append_R (α := UInt8) (M := noM) (base := w.heap.size) (l := []) (m := l) (u := .slice (some ad) l.length c) rfl (by rfl) tyB (by rfl) (OwR.made _ _ _) (by rfl) (hs.mono Keep.ownNew) (by simpa using hl) (by simp) ?_); intro v1 w1 ho hg hat)
    go_ret
    exact ⟨_, rfl, OwR.plain (fun _ _ _ _ _ h => h) ho, ((Below.refl _ _).alloc (Nat.le_refl _) _).grown hg (by simp) (by simp [Value.ownBlock])⟩
end Go.Proofs.Ytpknhpfbinplgaa
