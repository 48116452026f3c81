/-
The contracts of the functions that copy a slice of bytes, of cells, of writes: what comes back reads as what was handed in, and nothing that was there has turned.
-/
import Derived.Test.YtkdjacmabeeceaaProg
import Derived.Test.YtkdjacmabeeceaaBase
import Derived.Deep.DeepMust
namespace Go.Proofs.Ytkdjacmabeeceaa
open Go.RowKit

/-- A disk's cell, a write that is not flushed, a disk, as plain data. -/
structure Cel where
  state : Int
  bytes : List UInt8
  old : List UInt8
structure Wri where
  addr : Int
  bytes : List UInt8
structure Dis where
  cells : List Cel
  cache : List Wri
  reqs : Int
  left : Int

instance : Rp Cel where
  sz := 3
  agg := true
  pos := by omega
  E := fun w M cs x => ∃ b o, cs = [.int .i64 x.state, b, o] ∧ SlR w M b x.bytes ∧ SlR w M o x.old
  len := fun h => by obtain ⟨b, o, rfl, _⟩ := h; rfl
  one := fun h u hu => by
    obtain ⟨b, o, rfl, ⟨a, c, xs, rfl, _⟩, ⟨a', c', xs', rfl, _⟩⟩ := h
    simp at hu; rcases hu with rfl | rfl | rfl <;> rfl
  mono := fun k h => by obtain ⟨b, o, rfl, h1, h2⟩ := h; exact ⟨b, o, rfl, h1.mono k, h2.mono k⟩
instance : Rp Wri where
  sz := 2
  agg := true
  pos := by omega
  E := fun w M cs x => ∃ b, cs = [.int .i64 x.addr, b] ∧ SlR w M b x.bytes
  len := fun h => by obtain ⟨b, rfl, _⟩ := h; rfl
  one := fun h u hu => by
    obtain ⟨b, rfl, a, c, xs, rfl, _⟩ := h
    simp at hu; rcases hu with rfl | rfl <;> rfl
  mono := fun k h => by obtain ⟨b, rfl, h1⟩ := h; exact ⟨b, rfl, h1.mono k⟩
instance : Rp Dis where
  sz := 4
  agg := true
  pos := by omega
  E := fun w M cs x => ∃ c k, cs = [c, k, .int .i64 x.reqs, .int .i64 x.left] ∧ SlR w M c x.cells ∧ SlR w M k x.cache
  len := fun h => by obtain ⟨b, o, rfl, _⟩ := h; rfl
  one := fun h u hu => by
    obtain ⟨b, o, rfl, ⟨a, c, xs, rfl, _⟩, ⟨a', c', xs', rfl, _⟩⟩ := h
    simp at hu; rcases hu with rfl | rfl | rfl | rfl <;> rfl
  mono := fun k h => by obtain ⟨b, o, rfl, h1, h2⟩ := h; exact ⟨b, o, rfl, h1.mono k, h2.mono k⟩

section
variable {w : World} {M : Ms} {a : Option Addr} {n c k : Nat}
theorem u8_at {l : List UInt8} (h : SlR w M (.slice a n c) l) (hk : k < l.length) : ∃ b off, a = some ⟨b, off, none⟩ ∧ ¬ M b ∧ w.cell? ⟨b, off + k, none⟩ = some (.int .u8 l[k].toNat) := by
  obtain ⟨b, off, cs, rfl, hm, he, hc⟩ := h.at_ hk
  have he' : cs = [.int .u8 l[k].toNat] := he
  subst he'
  refine ⟨b, off, rfl, hm, ?_⟩
  have := hc 0 _ rfl
  simpa [Rp.sz] using this
theorem int_at {l : List Int} (h : SlR w M (.slice a n c) l) (hk : k < l.length) : ∃ b off, a = some ⟨b, off, none⟩ ∧ ¬ M b ∧ w.cell? ⟨b, off + k, none⟩ = some (.int .i64 l[k]) := by
  obtain ⟨b, off, cs, rfl, hm, he, hc⟩ := h.at_ hk
  have he' : cs = [.int .i64 l[k]] := he
  subst he'
  refine ⟨b, off, rfl, hm, ?_⟩
  have := hc 0 _ rfl
  simpa [Rp.sz] using this
theorem row_at {α : Type} [Rp α] {l : List (List α)} (h : SlR w M (.slice a n c) l) (hk : k < l.length) : ∃ b off v, a = some ⟨b, off, none⟩ ∧ ¬ M b ∧ w.cell? ⟨b, off + k, none⟩ = some v ∧ SlR w M v l[k] := by
  obtain ⟨b, off, cs, rfl, hm, he, hc⟩ := h.at_ hk
  obtain ⟨v, rfl, hv⟩ := he
  refine ⟨b, off, v, rfl, hm, ?_, hv⟩
  have := hc 0 _ rfl
  simpa [Rp.sz] using this
theorem cel_at {l : List Cel} (h : SlR w M (.slice a n c) l) (hk : k < l.length) : ∃ b off vb vo, a = some ⟨b, off, none⟩ ∧ ¬ M b ∧ w.cell? ⟨b, off + k * 3, none⟩ = some (.int .i64 l[k].state) ∧
    w.cell? ⟨b, off + k * 3 + 1, none⟩ = some vb ∧ w.cell? ⟨b, off + k * 3 + 2, none⟩ = some vo ∧ SlR w M vb l[k].bytes ∧ SlR w M vo l[k].old := by
  obtain ⟨b, off, cs, rfl, hm, he, hc⟩ := h.at_ hk
  obtain ⟨vb, vo, rfl, hb, ho⟩ := he
  exact ⟨b, off, vb, vo, rfl, hm, hc 0 _ rfl, hc 1 _ rfl, hc 2 _ rfl, hb, ho⟩
theorem wri_at {l : List Wri} (h : SlR w M (.slice a n c) l) (hk : k < l.length) : ∃ b off vb, a = some ⟨b, off, none⟩ ∧ ¬ M b ∧ w.cell? ⟨b, off + k * 2, none⟩ = some (.int .i64 l[k].addr) ∧
    w.cell? ⟨b, off + k * 2 + 1, none⟩ = some vb ∧ SlR w M vb l[k].bytes := by
  obtain ⟨b, off, cs, rfl, hm, he, hc⟩ := h.at_ hk
  obtain ⟨vb, rfl, hb⟩ := he
  exact ⟨b, off, vb, rfl, hm, hc 0 _ rfl, hc 1 _ rfl, hb⟩
end
theorem rv_cel {w : World} {M : Ms} {v : Value} {x : Cel} : Rv w M v x ↔ ∃ b o, v = .agg #[.int .i64 x.state, b, o] ∧ SlR w M b x.bytes ∧ SlR w M o x.old :=
  ⟨fun ⟨_, e, b, o, hcs, h1, h2⟩ => ⟨b, o, by subst hcs; exact e, h1, h2⟩, fun ⟨b, o, e, h1, h2⟩ => ⟨_, e, b, o, rfl, h1, h2⟩⟩
theorem rv_wri {w : World} {M : Ms} {v : Value} {x : Wri} : Rv w M v x ↔ ∃ b, v = .agg #[.int .i64 x.addr, b] ∧ SlR w M b x.bytes :=
  ⟨fun ⟨_, e, b, hcs, h1⟩ => ⟨b, by subst hcs; exact e, h1⟩, fun ⟨b, e, h1⟩ => ⟨_, e, b, rfl, h1⟩⟩
theorem rv_dis {w : World} {M : Ms} {v : Value} {x : Dis} : Rv w M v x ↔ ∃ c k, v = .agg #[c, k, .int .i64 x.reqs, .int .i64 x.left] ∧ SlR w M c x.cells ∧ SlR w M k x.cache :=
  ⟨fun ⟨_, e, b, o, hcs, h1, h2⟩ => ⟨b, o, by subst hcs; exact e, h1, h2⟩, fun ⟨b, o, e, h1, h2⟩ => ⟨_, e, b, o, rfl, h1, h2⟩⟩

theorem ty32 : SlT Try.prog 32 5 UInt8 := ⟨Try.underlying32, .int .u8 0, 1, 1, by kernel_rfl, rfl, by omega, rfl⟩
theorem ty24 : SlT Try.prog 24 47 Cel := ⟨Try.underlying24, .agg #[.int .i64 0, .slice none 0 0, .slice none 0 0], 3, 56, by kernel_rfl, rfl, by omega, rfl⟩
theorem ty25 : SlT Try.prog 25 78 Wri := ⟨Try.underlying25, .agg #[.int .i64 0, .slice none 0 0], 2, 32, by kernel_rfl, rfl, by omega, rfl⟩

set_option maxHeartbeats 400000 in
theorem twin_any (v : Value) (l : List UInt8) (w : World) (M : Ms) (h : Rv w M v l) (hM : MOk w M) (hl : l.length ≤ 1000000000) :
    Calls Try.prog 12 #[v] w fun e w' => ∃ r, e = .returned r ∧ Rv w' M r l ∧ Below w.heap.size w w' := by
  have hs := rv_list.1 h
  go_enter Try.func12, Try.ntmps12
  go_wp2_with (at_builtin; go_must (refine wpList_append_R (α := UInt8) (M := M) (base := w.heap.size) (l := []) (m := l) (v := .slice none 0 0) (u := v) rfl (by rfl) ty32 (by rfl) (OwR.nil _ _ _ _) (by rfl) (hs.mono (Keep.ownNil _ _ _)) (by simpa using hl) (Nat.le_refl _) ?_; intro v1 w1 ho hg hat))
  go_ret
  exact ⟨_, rfl, ho.rv hM.new, Below.ofNil hg⟩

set_option maxHeartbeats 400000 in
theorem bclone_any (v : Value) (l : List UInt8) (w : World) (M : Ms) (h : Rv w M v l) (hM : MOk w M) (hl : l.length ≤ 1000000000) :
    Calls Try.prog 41 #[v] w fun e w' => ∃ r, e = .returned r ∧ Rv w' M r l ∧ Below w.heap.size w w' := by
  have hs := rv_list.1 h
  obtain ⟨a, c, xs, rfl, h1, h2, h3, h4⟩ := id hs
  have he := fun w n => Lib.run_eql_slice_nil (P := Try.prog) w 32 5 a n c 0 0 Try.underlying32
  cases a with
  | none =>
    have hl0 : l = [] := Classical.byContradiction fun hne => by obtain ⟨b, off, e, _⟩ := h4 hne; cases e
    subst hl0
    clear h3 h4 h1 h2 h hs
    simp only [List.length_nil] at hl ⊢
    go_enter Try.func41, Try.ntmps41
    go_wp2
    go_ret
    exact ⟨_, rfl, rv_list.2 ⟨none, 0, [], rfl, by simp, by simp [maxLen], rfl, fun h => absurd rfl h⟩, Below.refl _ _⟩
  | some ad =>
    clear h3 h4 h1 h2 h
    go_enter Try.func41, Try.ntmps41
    go_wp2_with (at_builtin; go_must (refine wpList_append_R (α := UInt8) (M := M) (base := w.heap.size) (l := []) (m := l) (u := .slice (some ad) l.length c) rfl (by rfl) ty32 (by rfl) (OwR.made _ _ _) (by rfl) (hs.mono Keep.ownNew) (by simpa using hl) (by simp) ?_); intro v1 w1 ho hg hat)
    go_ret
    exact ⟨_, rfl, ho.rv hM.new, ((Below.refl _ _).alloc (Nat.le_refl _) _).grown hg (by simp) (by simp [Value.ownBlock])⟩

set_option maxHeartbeats 400000 in
theorem cclone_any (v : Value) (l : List Cel) (w : World) (M : Ms) (h : SlR w M v l) (hl : l.length ≤ 1000000000) :
    Calls Try.prog 50 #[v] w fun e w' => ∃ r, e = .returned r ∧ OwR w' M w.heap.size 47 r l ∧ Below w.heap.size w w' := by
  obtain ⟨a, c, xs, rfl, h1, h2, h3, h4⟩ := id h
  have he := fun w n => Lib.run_eql_slice_nil (P := Try.prog) w 24 47 a n c 0 0 Try.underlying24
  cases a with
  | none =>
    have hl0 : l = [] := Classical.byContradiction fun hne => by obtain ⟨b, off, e, _⟩ := h4 hne; cases e
    subst hl0
    clear h3 h4 h1 h2 h
    simp only [List.length_nil] at hl ⊢
    go_enter Try.func50, Try.ntmps50
    go_wp2
    go_ret
    exact ⟨_, rfl, OwR.nil _ _ _ _, Below.refl _ _⟩
  | some ad =>
    clear h3 h4 h1 h2
    go_enter Try.func50, Try.ntmps50
    go_wp2_with (at_builtin; go_must (refine wpList_append_R (α := Cel) (M := M) (base := w.heap.size) (l := []) (m := l) (u := .slice (some ad) l.length c) rfl (by rfl) ty24 (by rfl) (OwR.made _ _ _) (by rfl) (h.mono Keep.ownNew) (by simpa using hl) (by simp) ?_); intro v1 w1 ho hg hat)
    go_ret
    exact ⟨_, rfl, ho, ((Below.refl _ _).alloc (Nat.le_refl _) _).grown hg (by simp) (by simp [Value.ownBlock])⟩

set_option maxHeartbeats 400000 in
theorem wclone_any (v : Value) (l : List Wri) (w : World) (M : Ms) (h : SlR w M v l) (hl : l.length ≤ 1000000000) :
    Calls Try.prog 51 #[v] w fun e w' => ∃ r, e = .returned r ∧ OwR w' M w.heap.size 78 r l ∧ Below w.heap.size w w' := by
  obtain ⟨a, c, xs, rfl, h1, h2, h3, h4⟩ := id h
  have he := fun w n => Lib.run_eql_slice_nil (P := Try.prog) w 25 78 a n c 0 0 Try.underlying25
  cases a with
  | none =>
    have hl0 : l = [] := Classical.byContradiction fun hne => by obtain ⟨b, off, e, _⟩ := h4 hne; cases e
    subst hl0
    clear h3 h4 h1 h2 h
    simp only [List.length_nil] at hl ⊢
    go_enter Try.func51, Try.ntmps51
    go_wp2
    go_ret
    exact ⟨_, rfl, OwR.nil _ _ _ _, Below.refl _ _⟩
  | some ad =>
    clear h3 h4 h1 h2
    go_enter Try.func51, Try.ntmps51
    go_wp2_with (at_builtin; go_must (refine wpList_append_R (α := Wri) (M := M) (base := w.heap.size) (l := []) (m := l) (u := .slice (some ad) l.length c) rfl (by rfl) ty25 (by rfl) (OwR.made _ _ _) (by rfl) (h.mono Keep.ownNew) (by simpa using hl) (by simp) ?_); intro v1 w1 ho hg hat)
    go_ret
    exact ⟨_, rfl, ho, ((Below.refl _ _).alloc (Nat.le_refl _) _).grown hg (by simp) (by simp [Value.ownBlock])⟩
end Go.Proofs.Ytkdjacmabeeceaa
